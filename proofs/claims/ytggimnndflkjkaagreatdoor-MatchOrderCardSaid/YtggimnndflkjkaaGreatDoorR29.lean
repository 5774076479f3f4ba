import Derived.Test.YtggimnndflkjkaaGreatDoorR01
import Derived.Test.YtggimnndflkjkaaGreatDoorR17
import Derived.Test.YtggimnndflkjkaaGreatDoorR27
import Derived.Test.YtggimnndflkjkaaGreatDoorR28
import Derived.Deep.DeepCutAuto
set_option linter.all false
set_option maxRecDepth 100000
set_option maxHeartbeats 0
namespace Go.Proofs.YtggimnndflkjkaaGreatDoor
section
open Go.RowKit Go.Maps
theorem zxx {B : Nat} {wb wC : World} {v : Value} {g cap n : Nat} {l : List ByteArray} {s : ByteArray} (h : zbb B wb v l) (hs : s.size <= maxLen) (hown1 : wC.ownsRow B 9 1 (.slice (some ⟨g,0,none⟩) n cap) n (l.flatMap strCells ++ [.string s])) (hn : n = l.length + 1) : zbb B wC (.slice (some ⟨g,0,none⟩) n cap) (l ++ [s]):=by
 subst hn;refine ⟨by simpa [strCells] using hown1,fun p hp=>?_⟩;rcases List.mem_append.1 hp with hp | hp
 ·exact h.2 p hp
 ·rw [mS.1 hp]; exact hs
def zcN (i k : Nat) : List ByteArray:=(List.range k).map fun m=>zcb (zx i) (m + i)
theorem zif (i k : Nat) : (zcN i k).length = k:=by simp [zcN]
theorem zlV (i k : Nat) : zcN i (k + 1) = zcN i k ++ [zcb (zx i) (k + i)]:=by simp [zcN,List.range_succ]
theorem znw (i : Nat) : zcN i 3 = zbt i:=by simp [zcN,zbt,List.range_succ,Nat.add_comm]
theorem zsv (c k : Nat) : (zcb c k).size <= 10:=by
 unfold zcb
 split
 ·rw [ByteArray.size_append]; show 4 + 1 <= 10; decide
 ·split
  ·rw [ByteArray.size_append]; show 5 + 1 <= 10; decide
  ·rw [ByteArray.size_append]; show 3 + 1 <= 10; decide
theorem ztd (j : Nat) (h : j < 5) : (zbg.getD j ⟨#[]⟩).size <= 100:=by
 have : ∀ j : Fin 5,(zbg.getD j.val ⟨#[]⟩).size <= 100:=by decide
 exact this ⟨j,h⟩
theorem zvZ (i : Nat) : 1 <= zx i /\ zx i <= 3:=by unfold zx; omega
theorem zgS {wA w1 w2 : World} {ob : Option Nat} (h : wA.grownBy w1 ob) (hb : Below w1.heap.size w1 w2) : wA.grownBy w2 ob:=
 ⟨hb.os.trans h.os,hb.tape.trans h.tape,hb.output.trans h.output,Nat.le_trans h.size hb.size,fun k hk ho=>(hb.block k (Nat.lt_of_lt_of_le hk h.size)).trans (h.block k hk ho)⟩
theorem zbi {w1 w2 : World} {base : Nat} {e : TypeId} {k : Nat} {v : Value} {n : Nat} {xs : List Value} (h : w1.ownsRow base e k v n xs) (hb : Below w1.heap.size w1 w2) : w2.ownsRow base e k v n xs:=by
 refine ⟨h.1,?_⟩;rcases h.2 with h0 | ⟨g,cap,cur,e1,h1,hg,h2⟩
 ·exact .inl h0
 ·exact .inr ⟨g,cap,cur,e1,h1,(hb.block g (Array.getElem?_eq_some_iff.1 hg).1).trans hg,h2⟩
def zmi (w : World) (b o i : Nat) : Prop:=b < w.heap.size /\ w.cell? ⟨b,o,none⟩ = some (.string (zcb (zx i) i)) /\ w.cell? ⟨b,o + 1,none⟩ = some (.string (zcb (zx i) (i + 1))) /\ w.cell? ⟨b,o + 2,none⟩ = some (.string (zcb (zx i) (i + 2)))
theorem zmi.keep {w w' : World} {b o i : Nat} (h : zmi w b o i) {Q : Nat -> Prop} (hk : zc Q w w') (hq : Q b) : zmi w' b o i:=
 ⟨Nat.lt_of_lt_of_le h.1 hk.size,(hk.cell h.1 hq).trans h.2.1,(hk.cell h.1 hq).trans h.2.2.1,(hk.cell h.1 hq).trans h.2.2.2⟩
theorem zrC {Q : Nat -> Prop} {w : World} {v : Value} {i : Nat} (h : zdN Q w v (zbt i)) : ∃ b o c,v = .slice (some ⟨b,o,none⟩) 3 c /\ Q b /\ zmi w b o i:=by
 obtain ⟨A,c,rfl,-,-,hA⟩:=h;obtain ⟨b,o,rfl,hb,hq,hi⟩:=hA (by simp [zbt]);have h0:=hi 0 (by simp [zbt]);have h1:=hi 1 (by simp [zbt]);have h2:=hi 2 (by simp [zbt]);exact ⟨b,o,c,rfl,hq,hb,h0.1,h1.1,h2.1⟩
theorem zhV (w : World) (v : Int) (n : Nat) (hv : v = n) (hn : n < 256) : (convert 22 9 (.slice (some ⟨w.heap.size,0,none⟩) 1 1)).run Tryz.prog (w.alloc (.cells #[.int .u8 v] 5)) = .ok (.string ⟨#[UInt8.ofNat n]⟩) (w.alloc (.cells #[.int .u8 v] 5)):=
 run_convert_bytes_back (P:=Tryz.prog) (w.alloc (.cells #[.int .u8 v] 5)) 22 9 5 ⟨w.heap.size,0,none⟩ 1 [UInt8.ofNat n] Tryz.underlying22 Tryz.underlying5 Tryz.underlying9 (fun j hj=>by
  obtain rfl : j = 0:=by simpa using hj
  rw [show (Addr.add ⟨w.heap.size,0,none⟩ 0) = ⟨w.heap.size,0,none⟩ from rfl,(Blk.new w 5 #[.int .u8 v]).cell 0];subst hv
  simp; omega)
def zqX (b : Bool) : ByteArray:=if b then ⟨#[83,79,85,84,72]⟩ else ⟨#[]⟩
def zjY (b : Bool) : ByteArray:=if b then ⟨#[65,86,69,78,85,69]⟩ else ⟨#[]⟩
theorem BR.town_at {B G : Nat} {w0 W w : World} {vt vs vr vp : Value} {tl : List zcG} {sl : List zbn} {rs : List zj} {ps : List zh} (h : BR B G w0 W vt vs vr vp tl sl rs ps w) {N : Nat} {f : Nat -> zJ} (hm : tl.map zcG.t = (List.range N).map f) {q : Nat} (hq : q < N) :
  ∃ tb tc,vt = .slice (some ⟨tb,0,none⟩) N tc /\ tb < w.heap.size /\ B <= tb /\ vt.ownBlock = some tb /\ w.cell? ⟨tb,q * 5,none⟩ = some (.int .i64 (f q).id) /\ w.cell? ⟨tb,q * 5 + 1,none⟩ = some (.int .u8 (f q).country) /\ w.cell? ⟨tb,q * 5 + 2,none⟩ = some (.string (f q).name) /\
   w.cell? ⟨tb,q * 5 + 3,none⟩ = some (.string (f q).region) /\ ∃ A n c,w.cell? ⟨tb,q * 5 + 4,none⟩ = some (.slice A n c) /\ zdN (zeW B vt vs vr vp) w (.slice A n c) (f q).codes:=by
 have hl : tl.length = N:=by have:=congrArg List.length hm; simpa using this
 obtain ⟨A,c,rfl,-,-,hA⟩:=h.t.sl (fun _=>rfl);obtain ⟨b,off,rfl,hb,hB,hi⟩:=hA (by omega);have hql : q < tl.length:=by omega
 obtain ⟨rfl,hob,hc⟩:=hi q hql
 have e : tl[q].t = f q:=by
  have h1 : (tl.map zcG.t)[q]? = ((List.range N).map f)[q]?:=by rw [hm]
  rw [List.getElem?_map,List.getElem?_map,List.getElem?_eq_getElem hql,List.getElem?_range hq] at h1;simpa using h1
 have hti:=h.ti _ (List.getElem_mem hql);have c0:=hc hql 0 (by omega);have c1:=hc hql 1 (by omega);have c2:=hc hql 2 (by omega);have c3:=hc hql 3 (by omega);have c4:=hc hql 4 (by omega);rw [e] at hti;simp only [zeg,e,List.getElem?_cons_zero,List.getElem?_cons_succ,Nat.zero_add,Nat.add_zero] at c0 c1 c2 c3 c4;exact ⟨b,c,by rw [hl],hb,hB,hob.symm,c0,c1,c2,c3,tl[q].A,tl[q].n,tl[q].c,c4,hti⟩
theorem zvn {b g : Nat} {ob : Option Nat} {w : World} (h : some b ≠ ob) (hb : b < w.heap.size) (hat : ob = some g \/ w.heap.size <= g) : some b ≠ some g:=by
 rintro e;have e3 : b = g:=Option.some.inj e;subst e3;rcases hat with e | e
 ·exact h e.symm
 ·omega
theorem ztI {Q : Nat -> Prop} {w : World} : zdN Q w (.slice none 0 0) []:=⟨none,0,rfl,by simp,by decide,fun h=>absurd h (by simp)⟩
theorem zpw {Q : Nat -> Prop} {w : World} {N : Nat} {s : ByteArray} (h : Blk w N 9 #[.string s]) (hq : Q N) (hs : s.size <= maxLen) : zdN Q w (.slice (some ⟨N,0,none⟩) 1 1) [s]:=
 ⟨_,_,rfl,lQ _,by decide,fun _=>⟨N,0,rfl,h.lt,hq,fun i hi=>by
  obtain rfl : i = 0:=by simpa using hi
  exact ⟨h.cell 0,hs⟩⟩⟩
theorem zyV (a b : zj) (l : List Value) (h : l = zbN a ++ zbN b) : ∀ u ∈ l,u.oneCell' = true:=by
 subst h;exact fun u hu=>(List.mem_append.1 hu).elim (zcY a u) (zcY b u)
theorem zyM {w : World} {B n : Nat} {v : Value} {X l : List Value} {a b : zj} (e : l = zbN a ++ zbN b) (h : w.ownsRow B 72 7 v n (X ++ l)) : w.ownsRow B 72 7 v n (X ++ [a,b].flatMap zbN):=by
 subst e;simpa using h
theorem zre (x : zi) (i : Nat) : (zda x i).length <= 3:=by
 unfold zda zeO
 split <;> simp
theorem zgH (x : zi) : ∀ j,((List.range j).flatMap (zda x)).length <= 3 * j
 | 0=>by simp
 | j + 1=>by
  rw [List.range_succ,List.flatMap_append,List.length_append,List.flatMap_cons,List.flatMap_nil,List.append_nil];have:=zgH x j;have:=zre x j;omega
theorem BR.street_at {B G : Nat} {w0 W w : World} {vt vs vr vp : Value} {tl : List zcG} {sl : List zbn} {rs : List zj} {ps : List zh} (h : BR B G w0 W vt vs vr vp tl sl rs ps w) {N : Nat} {f : Nat -> zz} (hm : sl.map zbn.s = (List.range N).map f) {q : Nat} (hq : q < N) :
  ∃ sb sc,vs = .slice (some ⟨sb,0,none⟩) N sc /\ sb < w.heap.size /\ w.cell? ⟨sb,q * 6,none⟩ = some (.int .i64 (f q).id) /\ w.cell? ⟨sb,q * 6 + 1,none⟩ = some (.int .i64 (f q).town):=by
 have hl : sl.length = N:=by have:=congrArg List.length hm; simpa using this
 obtain ⟨A,c,rfl,-,-,hA⟩:=h.s.sl (fun _=>rfl);obtain ⟨b,off,rfl,hb,hB,hi⟩:=hA (by omega);have hql : q < sl.length:=by omega
 obtain ⟨rfl,hob,hc⟩:=hi q hql
 have e : sl[q].s = f q:=by
  have h1 : (sl.map zbn.s)[q]? = ((List.range N).map f)[q]?:=by rw [hm]
  rw [List.getElem?_map,List.getElem?_map,List.getElem?_eq_getElem hql,List.getElem?_range hq] at h1;simpa using h1
 have c0:=hc hql 0 (by omega);have c1:=hc hql 1 (by omega);simp only [zfZ,e,List.getElem?_cons_zero,List.getElem?_cons_succ,Nat.zero_add,Nat.add_zero] at c0 c1;exact ⟨b,c,by rw [hl],hb,c0,c1⟩
theorem BR.point_at {B G : Nat} {w0 W w : World} {vt vs vr vp : Value} {tl : List zcG} {sl : List zbn} {rs : List zj} {ps : List zh} (h : BR B G w0 W vt vs vr vp tl sl rs ps w) (h0 : 0 < ps.length) :
  ∃ b c,vp = .slice (some ⟨b,0,none⟩) ps.length c /\ b < w.heap.size /\ ∀ (q : Nat) (hq : q < ps.length),w.cell? ⟨b,q * 8,none⟩ = some (.int .i64 ps[q].id) /\ w.cell? ⟨b,q * 8 + 1,none⟩ = some (.int .i64 ps[q].town) /\ w.cell? ⟨b,q * 8 + 2,none⟩ = some (.int .i64 ps[q].street) /\ w.cell? ⟨b,q * 8 + 3,none⟩ = some (.int .i64 ps[q].number) /\
   w.cell? ⟨b,q * 8 + 4,none⟩ = some (.string ps[q].letter) /\ w.cell? ⟨b,q * 8 + 5,none⟩ = some (.string ps[q].unit) /\ w.cell? ⟨b,q * 8 + 6,none⟩ = some (.int .i64 ps[q].box) /\ w.cell? ⟨b,q * 8 + 7,none⟩ = some (.int .i64 ps[q].seq):=by
 obtain ⟨A,c,rfl,-,-,hA⟩:=h.p.sl (fun _=>rfl);obtain ⟨b,off,rfl,hb,hB,hi⟩:=hA h0;obtain ⟨rfl,-,-⟩:=hi 0 h0;refine ⟨b,c,rfl,hb,fun q hq=>?_⟩;obtain ⟨-,-,hc⟩:=hi q hq;have c0:=hc hq 0 (by omega);have c1:=hc hq 1 (by omega);have c2:=hc hq 2 (by omega);have c3:=hc hq 3 (by omega);have c4:=hc hq 4 (by omega);have c5:=hc hq 5 (by omega);have c6:=hc hq 6 (by omega);have c7:=hc hq 7 (by omega);simp only [zds,List.getElem?_cons_zero,List.getElem?_cons_succ,Nat.zero_add,Nat.add_zero] at c0 c1 c2 c3 c4 c5 c6 c7;exact ⟨c0,c1,c2,c3,c4,c5,c6,c7⟩
def zkx (pl : List zh) (p : zh) (k : Nat) : Bool:=(pl.take k).any fun q=>decide (zaC q = zaC p)
theorem zsp (pl : List zh) (p : zh) : zkx pl p 0 = false:=by simp [zkx]
theorem zso (pl : List zh) (p : zh) (k : Nat) (hk : k < pl.length) : zkx pl p (k + 1) = (zkx pl p k || decide (zaC pl[k] = zaC p)):=by
 unfold zkx;rw [List.take_add_one,List.getElem?_eq_getElem hk,List.any_append];simp
theorem zuh (pl : List zh) (p : zh) : zkx pl p pl.length = pl.any fun q=>decide (zaC q = zaC p):=by simp [zkx]
theorem zew (x : zi) : ∀ i,(zba x i).length <= i
 | 0=>lQ _
 | i + 1=>by
  have h:=zew x i;rw [zba];unfold zgK
  split
  ·omega
  ·rw [List.length_append]; simp; omega
theorem BR.off {B G : Nat} {w0 W w : World} {vt vs vr vp : Value} {tl : List zcG} {sl : List zbn} {rs : List zj} {ps : List zh} (h : BR B G w0 W vt vs vr vp tl sl rs ps w) {R i : Nat} (u : Value) (hR : R < B) (h0 : w0.heap.size <= R) (hG : R ≠ G) : BR B G w0 (w.setCell ⟨R,i,none⟩ u) vt vs vr vp tl sl rs ps (w.setCell ⟨R,i,none⟩ u) where
  below:=h.below.setCell h0 u
  order:=by simpa [World.setCell] using h.order
  side:=⟨lQ _,fun _ _ _=>rfl⟩
  blk:=h.blk.far (Ne.symm hG) u
  t:=h.t.keep ze (zc.set_ _ _ _ (by simp; omega))
  s:=h.s.keep ze (zc.set_ _ _ _ (by simp; omega))
  r:=h.r.keep ze (zc.set_ _ _ _ (by simp; omega))
  p:=h.p.keep ze (zc.set_ _ _ _ (by simp; omega))
  ts:=h.ts
  tr:=h.tr
  tp:=h.tp
  sr:=h.sr
  sp:=h.sp
  rp:=h.rp
  ti:=fun x hx=>(h.ti x hx).keep (zc.set_ w ⟨R,i,none⟩ u (fun ha=>by have:=ha.1; simp at this; omega)) fun _ _ hb=>hb
  si:=fun x hx=>(h.si x hx).keep (zc.set_ w ⟨R,i,none⟩ u (fun ha=>by have:=ha.1; simp at this; omega)) fun _ _ hb=>hb
theorem BR.after {B G : Nat} {w0 W w w2 : World} {vt vs vr vp : Value} {tl : List zcG} {sl : List zbn} {rs : List zj} {ps : List zh} (h : BR B G w0 W vt vs vr vp tl sl rs ps w) (hk : zc (fun b=>w0.heap.size <= b) w w2) : zaf w2 vt vs vr vp ⟨tl.map zcG.t,sl.map zbn.s,rs,ps⟩:=by
 have hB : zc (fun b=>B <= b) w w2:=⟨hk.size,fun b hb h1=>hk.block b hb (by have:=h.order; omega)⟩;have hG : zc (fun b=>b = G) w w2:=⟨hk.size,fun b hb h1=>hk.block b hb (by have:=h.order; omega)⟩;have hA : zc (zeW B vt vs vr vp) w w2:=⟨hk.size,fun b hb h1=>hB.block b hb h1.1⟩
 exact BR.refer (B:=B) (G:=G) (w0:={ w2 with heap:=#[] }) (W:=w2) {
  below:=⟨rfl,rfl,rfl,Nat.zero_le _,fun b hb=>absurd hb (Nat.not_lt_zero b)⟩
  order:=⟨Nat.zero_le _,h.order.2.1,Nat.le_trans h.order.2.2 hk.size⟩
  side:=⟨lQ _,fun _ _ _=>rfl⟩
  blk:=(hG.block G h.blk.lt rfl).trans h.blk
  t:=h.t.keep ze hB
  s:=h.s.keep ze hB
  r:=h.r.keep ze hB
  p:=h.p.keep ze hB
  ts:=h.ts
  tr:=h.tr
  tp:=h.tp
  sr:=h.sr
  sp:=h.sp
  rp:=h.rp
  ti:=fun x hx=>(h.ti x hx).keep hA fun _ _ hb=>hb
  si:=fun x hx=>(h.si x hx).keep hA fun _ _ hb=>hb }
def zcm (b : Bool) : ByteArray:=if b then ⟨#[66]⟩ else ⟨#[]⟩
def zgI (b : Bool) : ByteArray:=if b then ⟨#[50]⟩ else ⟨#[]⟩
def ziD : Array Value:=#[.slice none 0 0,.slice none 0 0,.slice none 0 0,.slice none 0 0]
structure zub (G : Prop) : Prop where
 out : G
def zul : PSigma fun G : Prop=>zub G -> ∀ (x : zi) (vc vp : Value) (w : World) (hs : zbS w vc vp x),
  Calls Tryz.prog 23 #[.agg #[.int .u8 (x.towns : Int),.int .u8 (x.streets : Int),vc,vp]] w fun e w'=>∃ vt vs vr vq,e = .returned (.agg #[vt,vs,vr,vq]) /\ (∀ w2,zc (fun b=>w.heap.size <= b) w' w2 -> zaf w2 vt vs vr vq (zb x)) /\ Below w.heap.size w w':=by
 apply PSigma.mk
 case snd=>
 intro hG x vc vp w hs;obtain ⟨cA,cc,rfl,-⟩:=hs.c;obtain ⟨pA,pc,rfl,-⟩:=hs.p;have hs':=Hd hs;obtain ⟨i79,hi79,hz79,hy79,hw79⟩:=info_parts zxM;obtain ⟨i83,hi83,hz83,hy83,hw83⟩:=info_parts zzw;obtain ⟨i72,hi72,hz72,hy72,hw72⟩:=info_parts info72;obtain ⟨i33,hi33,hz33,hy33,hw33⟩:=info_parts zuP;obtain ⟨i9,hi9,hz9,hy9,hw9⟩:=info_parts zyC;have htw : x.towns < 256:=hs.t;have hst : x.streets < 256:=hs.s;clear hs;go_enter Tryz.func23,Tryz.ntmps23;go_upto_region 2 with fail;have kS:=Hd (((Blk.new w 25 #[.int .u8 (x.towns : Int),.int .u8 (x.streets : Int),.slice cA x.cuts.length cc,.slice pA x.points.length pc]).alloc (.cells ziD 31)).alloc (.cells ziD 31));have kR:=Hd ((Blk.new_at (w.alloc (.cells #[.int .u8 (x.towns : Int),.int .u8 (x.streets : Int),.slice cA x.cuts.length cc,.slice pA x.points.length pc] 25)) 31 ziD (w.heap.size + 1) (by simp)).alloc (.cells ziD 31));have kG:=Hd (Blk.new_at ((w.alloc (.cells #[.int .u8 (x.towns : Int),.int .u8 (x.streets : Int),.slice cA x.cuts.length cc,.slice pA x.points.length pc] 25)).alloc (.cells ziD 31)) 31 ziD (w.heap.size + 1 + 1) (by simp));have hb0:=Hd ((((Below.refl w.heap.size w).alloc (lQ _) (.cells #[.int .u8 (x.towns : Int),.int .u8 (x.streets : Int),.slice cA x.cuts.length cc,.slice pA x.points.length pc] 25)).alloc (by simp) (.cells ziD 31)).alloc (by simp; omega) (.cells ziD 31));unfold ziD at kS kR kG hb0;generalize ((w.alloc (.cells #[.int .u8 (x.towns : Int),.int .u8 (x.streets : Int),.slice cA x.cuts.length cc,.slice pA x.points.length pc] 25)).alloc (.cells #[.slice none 0 0,.slice none 0 0,.slice none 0 0,.slice none 0 0] 31)).alloc (.cells #[.slice none 0 0,.slice none 0 0,.slice none 0 0,.slice none 0 0] 31) = W0 at *;have hG2 : w.heap.size + 1 < w.heap.size + 1 + 1:=by omega
 have hR1 : w.heap.size < w.heap.size + 1:=by omega
 generalize w.heap.size + 1 + 1 = G at *;generalize w.heap.size + 1 = R at *;go_upto_region 3 with (refine Go.Great.wpList_buildSliceTo rfl 77 9 5 _ rfl W0.heap.size rfl (some 20) rfl Tryz.underlying77 (zbg.map Value.string).toArray (by kernel_rfl) ?_);have kS1:=Hd (kS.out.alloc (.cells (zbg.map Value.string).toArray 9));have kR1:=Hd (kR.out.alloc (.cells (zbg.map Value.string).toArray 9));have kN:=Hd (Blk.new W0 9 (zbg.map Value.string).toArray);have kG1:=Hd (kG.out.alloc (.cells (zbg.map Value.string).toArray 9));have hb1:=Hd (hb0.out.alloc hb0.out.size (.cells (zbg.map Value.string).toArray 9));have hGM : G < W0.heap.size:=kG.out.lt;have hMW : W0.heap.size + 1 <= (W0.alloc (.cells (zbg.map Value.string).toArray 9)).heap.size:=by simp
 generalize W0.alloc (.cells (zbg.map Value.string).toArray 9) = W at *;generalize W0.heap.size = M at *;have hbr0:=Hd (BR.nil (w0:=w) (w:=W) (B:=M + 1) kG1.out hb1.out (by omega) (by omega) hMW);clear kS kR kG kG1 hb0 hMW;go_wp2
 go_loopw [5] (fun iv wr=>∃ (i : Nat) (vt vr : Value) (tl : List zcG),i <= zK x /\ iv = .int .i64 i /\ Hid (BR (M + 1) G w W vt (.slice none 0 0) vr (.slice none 0 0) tl [] ((List.range i).map zeX) [] wr /\ tl.map zcG.t = (List.range i).map (zbF x))) (fun iv _=>zK x - (intOf iv).toNat)
 case atStart=>exact ⟨0,_,_,[],by omega,rfl,Hd ⟨hbr0.out,rfl⟩⟩
 case round=>
  obtain ⟨i,vt,vr,tl,hi,rfl,hbr⟩:=hrel;rename World=>wr;have n0 : (0 : Int) <= (i : Int):=by omega
  have hN5:=zal x;have k25:=Hd (kS1.out.keep hbr.out.1.side ⟨by omega,by omega⟩);have c0:=k25.out.cell 0;have c2:=k25.out.cell 2;have l25:=k25.out.lt;simp at c0 c2;by_cases hlt : i < zK x
  ·have n1 : (i : Int) < 1 + (x.towns : Int) % 5:=by unfold zK at hlt; omega
   have hi5 : i < 5:=by omega
   go_wp2_with fail;have hcut:=Hd (zwE x.cuts _ i wr (hs'.out.stays (zo.of hbr.out.1.below)).c hs'.out.cl (by omega));refine hcut.out.mono ?_;rintro e w' ⟨rfl,hb2⟩;have hcl:=zrE hs'.out.cl i;generalize hcq : zej x.cuts i = ct at *;have hbw:=Hd (hbr.out.1.up hb2);have kN2:=Hd ((kN.out.keep hbr.out.1.side ⟨by omega,by omega⟩).below hb2 (kN.out.keep hbr.out.1.side ⟨by omega,by omega⟩).lt);have hjm : (i + ct) % 5 < 5:=Nat.mod_lt _ (by omega);have cN:=zlH kN2.out (k:=(i + ct) % 5) hjm;have lN:=kN2.out.lt;have hnm : Hid (zwa ((i + ct) % 5) i = if i = 0 then zbg.getD ((i + ct) % 5) ⟨#[]⟩ else zbg.getD ((i + ct) % 5) ⟨#[]⟩ ++ (⟨#[32]⟩ ++ zaE i)):=Hd rfl;have htp : Hid (zbF x i = ⟨(10 + i : Nat),(zx i : Nat),zwa ((i + ct) % 5) i,if i = 0 then ⟨#[88,89]⟩ else ⟨#[]⟩,zbt i⟩):=Hd (by unfold zbF zjV; rw [hcq]);have hnms : (zbg.getD ((i + ct) % 5) ⟨#[]⟩).size <= 100:=ztd _ hjm;generalize zbg.getD ((i + ct) % 5) ⟨#[]⟩ = nm at *;have m0 : (0 : Int) <= ((i : Int) + (ct : Int)) % 5:=by omega
   have m1 : ((i : Int) + (ct : Int)) % 5 < 5:=by omega
   have m2 : (((i : Int) + (ct : Int)) % 5).toNat = (i + ct) % 5:=by omega
   go_upto_region 7 with fail;have hcq : (1 : Int) + (i : Int) % 3 = ((zx i : Nat) : Int):=by unfold zx; omega
   rw [hcq];have kT:=Hd (Blk.new w' 79 #[.int .i64 (10 + (i : Int)),.int .u8 ((zx i : Nat) : Int),.string nm,.string ⟨#[]⟩,.slice none 0 0]);have hbT:=Hd ((Below.refl w'.heap.size w').alloc (lQ _) (.cells #[.int .i64 (10 + (i : Int)),.int .u8 ((zx i : Nat) : Int),.string nm,.string ⟨#[]⟩,.slice none 0 0] 79));clear hcq c0 c2 l25 k25 cN lN kN2 m0 m1 m2 hjm;generalize w'.alloc (.cells #[.int .i64 (10 + (i : Int)),.int .u8 ((zx i : Nat) : Int),.string nm,.string ⟨#[]⟩,.slice none 0 0] 79) = wT at *;have hbT0:=Hd (show w'.heap.size <= w'.heap.size from lQ _);generalize hTq : w'.heap.size = Tn at hbT kT ⊢;have hTq':=Hd hTq;have hMT : M + 1 <= Tn:=by have:=hbw.out.order.2.2; omega
   clear hTq hbT0;go_wp2
   go_loopw [7] (fun kv wr2=>∃ (k : Nat) (cv : Value),k <= 3 /\ kv = .int .i64 k /\ Hid (Below Tn w' wr2 /\ Blk wr2 Tn 79 #[.int .i64 (10 + (i : Int)),.int .u8 ((zx i : Nat) : Int),.string nm,.string ⟨#[]⟩,cv] /\ zbb (Tn + 1) wr2 cv (zcN i k))) (fun kv _=>3 - (intOf kv).toNat)
   case atStart=>exact ⟨0,_,by omega,rfl,Hd ⟨hbT.out,kT.out,zaw.nil_⟩⟩
   case round=>
    obtain ⟨k,cv,hk,rfl,hrel2⟩:=hrel;rename World=>wr2;have p0 : (0 : Int) <= (k : Int):=by omega
    obtain ⟨hbr2',kT2',hcd'⟩:=hrel2.out;obtain ⟨vA,vc,rfl⟩:=hcd'.form_;have hbr2:=Hd hbr2';have kT2:=Hd kT2';have hcd:=Hd hcd';have hTl : Tn <= wr2.heap.size:=Nat.le_of_lt kT2'.lt;clear hbr2' kT2' hcd' hrel2;by_cases hk3 : k < 3
    ·have p1 : (k : Int) < 3:=by omega
     go_upto_region 10 with fail;have hneT : some Tn ≠ Value.ownBlock (.slice vA (zcN i k).length vc):=fun e=>by have:=(hcd.out.block_lt e.symm).1; omega
     have hcc:=Hd fun (W : World)=>(Int.natCast_add k i) ▸ zyn (zx i) (k + i) W (by have:=zvZ i; omega) (by omega);have hml:=Hd (zif i k);have hms:=Hd (zlV i k);have hcs:=Hd (zsv (zx i) (k + i));generalize zcb (zx i) (k + i) = cd at *;generalize zcN i k = cl at *;refine zT (C:=fun w1=>zc (fun b=>some b ≠ Value.ownBlock (.slice vA cl.length vc)) wr2 w1) [true,true,true,true,true,true,true,true,false,false,false] [8,9,10] (by kernel_rfl) (by kernel_rfl) (by kernel_rfl) (fun _ h=>zc.of_below h _) ?A10 ?q10 ?t10
     case q10=>
      intro S1 hS1 hSC hne;have y1:=fun (u : zaP S1)=>(kT2.out.keep (hSC u.wld u.mem) hneT).cell 1;have y4:=fun (u : zaP S1)=>(kT2.out.keep (hSC u.wld u.mem) hneT).cell 4;simp at y1 y4;simp only [zbM,if_true,if_false,Bool.false_eq_true]
      repeat (go_big_quiet_step ((go_at_call 40; exact zdd hS1 (hcc.out _))))
      refine wpQuiet_nil ?_;rfl
     clear hcc;refine zB [8] (by kernel_rfl) fun j hj wa hba=>?_;obtain rfl:=mS.1 hj;refine ⟨_,rfl,rfl,zy (ops:=#[]) (K:=fun a' w'=>(∀ w2,Below w'.heap.size w' w2 -> (fun w1=>zc (fun b=>some b ≠ Value.ownBlock (.slice vA cl.length vc)) wr2 w1) w2) /\ mkG Tryz.prog _ _ (fun w1=>zc (fun b=>some b ≠ Value.ownBlock (.slice vA cl.length vc)) wr2 w1) _ 2 [9,10] a' w') rfl fun Q' hQ=>?_⟩;simp only [gX,gQ,gZ];have kx:=Hd (Blk.new wa 9 #[.string cd]);have hbx:=Hd (zq hba (.cells #[.string cd] 9));go_wp2;refine hQ _ _ rfl ⟨fun w4 h4=>zc.of_below (za hbx.out h4) _,?_⟩;clear hQ hba;generalize wa.alloc (.cells #[.string cd] 9) = wx at *;generalize wa.heap.size = NX at *;refine zB [9] (by kernel_rfl) fun j hj wb hbb=>?_;obtain rfl:=mS.1 hj;have hbw2:=Hd (za hbx.out hbb);have kb:=Hd (kx.out.below hbb kx.out.lt);have hcb:=Hd (zaw.keep zaA hcd.out (zc.of_below hbw2.out _));have kTb:=Hd (kT2.out.below hbw2.out kT2.out.lt);have sd1 : cl.length + 1 <= maxLen:=by have:=hml.out; unfold maxLen; omega
     have sd2 : (cl.length + 1) * 16 <= 140737488355328:=by have:=hml.out; omega
     have sd3 : Tn + 1 <= wb.heap.size:=kTb.out.lt;refine ⟨_,rfl,rfl,zy (ops:=#[]) (K:=fun a' w'=>(∀ w2,Below w'.heap.size w' w2 -> (fun w1=>zc (fun b=>some b ≠ Value.ownBlock (.slice vA cl.length vc)) wr2 w1) w2) /\ mkG Tryz.prog _ _ (fun w1=>zc (fun b=>some b ≠ Value.ownBlock (.slice vA cl.length vc)) wr2 w1) _ 1 [10] a' w') rfl fun Q' hQ=>?_⟩;simp only [gX,gQ,gZ];have hA:=Hd (fun (ops : Array Oper) (rest : List Oper) (o : Oper) (a : Act) (Q : Exit -> Act -> World -> Prop) hgd ho' hs hx h=>wpList_append_lies (P:=Tryz.prog) (ops:=ops) (rest:=rest) (o:=o) (a:=a) (Q:=Q) wb hgd (.tmp 52) (.tmp 59) 77 ho' (Tn + 1) 9 i9 (.string ⟨#[]⟩) 1 16 Tryz.underlying77 hi9 hz9 hy9 hw9 rfl (by decide) (.slice vA cl.length vc) cl.length (cl.flatMap strCells) hs hcb.out.1 ⟨NX,0,none⟩ 1 1 [.string cd] hx rfl (World.news_of_block (cs:=#[.string cd]) kb.out) (by simp; rfl) Nat.one_pos sd1 sd2 sd3 wb.heap.size rfl h);clear sd1 sd2 sd3;go_wp2_with (at_builtin; refine hA.out _ _ _ _ _ rfl rfl rfl rfl ?_; intro g cap1 wC hownC hgrC hatC hltC);have hcC:=Hd (zxx hcb.out (Nat.le_trans hcs.out (by unfold maxLen; omega)) hownC rfl);have kTC:=Hd (kTb.out.grown hgrC hneT);have hbC:=Hd ((hbr2.out.trans (hbw2.out.mono hTl)).grown hgrC (Nat.le_trans hTl hbw2.out.size) (fun g2 e=>by have:=(hcb.out.block_lt e).1; omega));have hkC:=Hd ((zc.of_below hbw2.out (fun b=>some b ≠ Value.ownBlock (.slice vA cl.length vc))).trans (zc.of_grown hgrC fun _ hb=>hb));clear hA hownC hgrC hatC hltC;refine hQ _ _ rfl ⟨fun w4 h4=>hkC.out.trans (zc.of_below h4 _),?_⟩;clear hQ;refine zag [10] (.pointer (some ⟨Tn,4,none⟩)) (by kernel_rfl) rfl (i:=10) rfl rfl (fun _ _=>rfl) (fun w2 h2=>hkC.out.trans (zc.of_below h2 _)) ?_;simp only [gX,gQ,gZ,Act.put,sX,sS,sZ];refine zaM rfl ?_;intro we hbe;have hcE:=Hd (zaw.keep zaA hcC.out (zc.of_below hbe _));have kTE:=Hd (kTC.out.below hbe kTC.out.lt);have hbE:=Hd (hbC.out.trans (hbe.mono (Nat.le_trans hTl hkC.out.size)));clear hcC kTC hbC hkC hbe hbw2 kb kx hbx hcb kTb;have s4:=kTE.out.cell 4;have f4:=kTE.out.frozen 4;have lE:=kTE.out.lt;simp at s4;have hfin:=Hd (show Below Tn w' (we.setCell ⟨Tn,4,none⟩ (.slice (some ⟨g,0,none⟩) (cl.length + 1) cap1)) /\ _ /\ _ from ⟨hbE.out.setCell (lQ _) _,kTE.out.set_ 4 (.slice (some ⟨g,0,none⟩) (cl.length + 1) cap1),zaw.keep zaA hcE.out (zc.set_ we ⟨Tn,4,none⟩ (.slice (some ⟨g,0,none⟩) (cl.length + 1) cap1) (by simp <;> omega))⟩);clear hcE kTE hbE;go_wp2;go_roundw
     case rel=>exact ⟨k + 1,_,by omega,by go_num,Hd (by rw [hms.out]; exact hfin.out)⟩
     case measure=>simp [intOf]; omega
    ·obtain rfl : k = 3:=by omega
     rw [zif] at kT2;rw [znw] at hcd;have hcx:=hcd.out.textsP;obtain ⟨cb,co,cc3,ecv,hcb,hc3⟩:=zrC hcx;cases ecv
     have hcb' : Tn + 1 <= cb:=hcb;have hc3':=Hd hc3;have hcx':=Hd hcx;have hbv:=hbw.out;obtain ⟨tA,tc,rfl⟩:=hbv.t.form_;obtain ⟨rA,rc,hrf⟩:=hbv.r.form_;rw [List.length_map,List.length_range] at hrf;subst hrf;clear hbv hcx hc3 hcd;by_cases hi0 : i = 0
     ·have e0 : ((i : Int) == 0) = true:=by simp [hi0]
      have e1 : ¬ (0 : Int) < (i : Int):=by omega
      have s3:=kT2.out.cell 3;have f3:=kT2.out.frozen 3;have lT:=kT2.out.lt;simp at s3
      have hq:=Hd (show Below Tn w' (wr2.setCell ⟨Tn,3,none⟩ (.string ⟨#[88,89]⟩)) /\ Blk (wr2.setCell ⟨Tn,3,none⟩ (.string ⟨#[88,89]⟩)) Tn 79 #[.int .i64 (10 + (i : Int)),.int .u8 ((zx i : Nat) : Int),.string nm,.string ⟨#[88,89]⟩,.slice (some ⟨cb,co,none⟩) 3 vc] /\ zdN (fun b=>Tn + 1 <= b) (wr2.setCell ⟨Tn,3,none⟩ (.string ⟨#[88,89]⟩)) (.slice (some ⟨cb,co,none⟩) 3 vc) (zbt i) /\ zmi (wr2.setCell ⟨Tn,3,none⟩ (.string ⟨#[88,89]⟩)) cb co i from
       ⟨hbr2.out.setCell (lQ _) _,kT2.out.set_ 3 _,hcx'.out.keep (zc.set_ _ _ _ (by simp <;> omega)) (fun _ _ h=>h),hc3'.out.keep (Q:=fun b=>Tn + 1 <= b) (zc.set_ _ _ _ (by simp <;> omega)) hcb⟩)
      have htq : Hid (zbF x i = ⟨10 + (i : Int),(zx i : Nat),nm,⟨#[88,89]⟩,zbt i⟩):=Hd (by rw [htp.out,hnm.out,if_pos hi0,if_pos hi0]; rfl);clear hi0;go_upto_region 15 with fail;clear s3 f3 lT;generalize wr2.setCell ⟨Tn,3,none⟩ (.string ⟨#[88,89]⟩) = wq at *;generalize (⟨#[88,89]⟩ : ByteArray) = rgq at hq htq ⊢;have hBq:=Hd (hbw.out.up (by rw [hTq'.out]; exact hq.out.1));have kTq:=Hd hq.out.2.1
      have htl:=Hd (show tl.length = i by
       have:=congrArg List.length hbr.out.2
       simpa using this)
      have hneTt : some Tn ≠ Value.ownBlock (.slice tA tl.length tc):=fun e=>by have:=(hbw.out.t.block_lt e.symm).2; have:=hTq'.out; omega
      have hneCt : some cb ≠ Value.ownBlock (.slice tA tl.length tc):=fun e=>by have:=(hbw.out.t.block_lt e.symm).2; have:=hTq'.out; omega
      have hneTr : some Tn ≠ Value.ownBlock (.slice rA i rc):=fun e=>by have:=(hbw.out.r.block_lt e.symm).2; have:=hTq'.out; omega
      have hneCr : some cb ≠ Value.ownBlock (.slice rA i rc):=fun e=>by have:=(hbw.out.r.block_lt e.symm).2; have:=hTq'.out; omega
      have z0:=kTq.out.cell 0;have z1:=kTq.out.cell 1;have z2:=kTq.out.cell 2;have z3:=kTq.out.cell 3;have z4:=kTq.out.cell 4;have lTq:=kTq.out.lt;simp at z0 z1 z2 z3 z4;have hal:=Hd ((Below.refl wq.heap.size wq).alloc (lQ _) (.cells #[.int .i64 (10 + (i : Int)),.int .u8 ((zx i : Nat) : Int),.string nm,.string rgq,.slice (some ⟨cb,co,none⟩) 3 vc] 79));have hxq:=Hd ((hq.out.2.2.1.keep (Q':=zeW (M + 1) (.slice tA tl.length tc) (.slice none 0 0) (.slice rA i rc) (.slice none 0 0)) (zc.of_below hal.out _) fun b _ hb=>hbw.out.new_away (by have:=hTq'.out; omega)));have hneG : some G ≠ Value.ownBlock (.slice tA tl.length tc):=fun e=>by have:=(hBq.out.t.block_lt e.symm).1; omega
      have hkG:=hBq.out.blk;have g0:=hkG.cell 0;have lG:=hkG.lt;simp at g0;have hwn:=(Below.refl wq.heap.size wq).alloc (lQ _) (.cells #[.int .i64 (10 + (i : Int)),.int .u8 ((zx i : Nat) : Int),.string nm,.string rgq,.slice (some ⟨cb,co,none⟩) 3 vc] 79);have hBn:=Hd (hBq.out.up hwn);have sd1 : tl.length + 1 <= maxLen:=by have:=htl.out; unfold maxLen; omega
      have sd2 : (tl.length + 1) * 72 <= 140737488355328:=by have:=htl.out; omega
      have sd3 : M + 1 <= (wq.alloc (.cells #[.int .i64 (10 + (i : Int)),.int .u8 ((zx i : Nat) : Int),.string nm,.string rgq,.slice (some ⟨cb,co,none⟩) 3 vc] 79)).heap.size:=by have:=hBn.out.order.2.2; omega
      have hA:=Hd (fun (ops : Array Oper) (rest : List Oper) (o : Oper) (a : Act) (Q : Exit -> Act -> World -> Prop) hgd ho' hs hx h=>wpList_append_lies (P:=Tryz.prog) (ops:=ops) (rest:=rest) (o:=o) (a:=a) (Q:=Q) (wq.alloc (.cells #[.int .i64 (10 + (i : Int)),.int .u8 ((zx i : Nat) : Int),.string nm,.string rgq,.slice (some ⟨cb,co,none⟩) 3 vc] 79)) hgd (.tmp 78) (.tmp 80) 26 ho' (M + 1) 79 i79 (.agg #[.int .i64 0,.int .u8 0,.string ⟨#[]⟩,.string ⟨#[]⟩,.slice none 0 0]) 5 72 Tryz.underlying26 hi79 hz79 hy79 hw79 rfl (by decide) (.slice tA tl.length tc) tl.length (tl.flatMap zeg) hs hBn.out.t.1 ⟨wq.heap.size,0,none⟩ 1 1 [.int .i64 (10 + (i : Int)),.int .u8 ((zx i : Nat) : Int),.string nm,.string rgq,.slice (some ⟨cb,co,none⟩) 3 vc] hx rfl (World.news_of_block (cs:=#[.int .i64 (10 + (i : Int)),.int .u8 ((zx i : Nat) : Int),.string nm,.string rgq,.slice (some ⟨cb,co,none⟩) 3 vc]) (heap_alloc_new _ _)) (zhf ⟨⟨10 + (i : Int),((zx i : Nat) : Int),nm,rgq,zbt i⟩,some ⟨cb,co,none⟩,3,vc⟩) (by decide) sd1 sd2 sd3 _ rfl h);clear sd1 sd2 sd3 hkG;go_upto_region 16 with (first | (refine Go.Great.wpList_buildSliceTo rfl 26 79 1 _ rfl wq.heap.size rfl (some 80) rfl Tryz.underlying26 #[.int .i64 (10 + (i : Int)),.int .u8 ((zx i : Nat) : Int),.string nm,.string rgq,.slice (some ⟨cb,co,none⟩) 3 vc] (by kernel_rfl) ?_) | (at_builtin; refine hA.out _ _ _ _ _ rfl rfl rfl rfl ?_; intro g cap1 wC hownC hgrC hatC hltC; have kGC:=Blk.grown hBn.out.blk hgrC hneG; have y0:=kGC.cell 0; have yf:=kGC.frozen 0; have yl:=kGC.lt; simp only [List.getElem?_toArray,List.getElem?_cons_succ,List.getElem?_cons_zero] at y0; clear kGC));have hB1:=Hd (BR.add_t (ls:=[⟨⟨10 + (i : Int),((zx i : Nat) : Int),nm,rgq,zbt i⟩,some ⟨cb,co,none⟩,3,vc⟩]) hBn.out (fun y hy=>by rw [mS.1 hy]; exact hxq.out) hownC rfl hgrC (hatC.imp_right fun e=>by rw [e]; exact lQ _));have kTu:=Hd (((kTq.out.alloc (.cells #[.int .i64 (10 + (i : Int)),.int .u8 ((zx i : Nat) : Int),.string nm,.string rgq,.slice (some ⟨cb,co,none⟩) 3 vc] 79)).grown hgrC hneTt).far (p:=⟨G,0,none⟩) (by have:=hBq.out.order; simp; omega) (.slice (some ⟨g,0,none⟩) (tl.length + 1) cap1));have hcu:=Hd (((hq.out.2.2.2.keep (Q:=fun b=>some b ≠ Value.ownBlock (.slice tA tl.length tc)) (zc.of_below hal.out _) hneCt).keep (Q:=fun b=>some b ≠ Value.ownBlock (.slice tA tl.length tc)) (zc.of_grown hgrC fun _ hb=>hb) hneCt).keep (Q:=fun b=>Tn + 1 <= b) (zc.set_ wC ⟨G,0,none⟩ (.slice (some ⟨g,0,none⟩) (tl.length + 1) cap1) (by have:=hBq.out.order; simp; omega)) hcb);clear hA hownC hgrC hatC hltC y0 yf yl g0 lG hneG hwn hBn;generalize wC.setCell ⟨G,0,none⟩ (.slice (some ⟨g,0,none⟩) (tl.length + 1) cap1) = wu at *;clear z0 z1 z2 z3 z4 lTq hal hxq kTq hBq hq;have hcdq : Hid (zcb (zx i) (i + 2) = zcb (zx i) (i + 2)):=Hd rfl;have hc2:=Hd hcu.out.2.2.2;have lcb:=hcu.out.1;have hrl : ((List.range i).map zeX).length = i:=by simp
      have htl2:=Hd hrl;have hrows : Hid ((List.range (i + 1)).map zeX = (List.range i).map zeX ++ [⟨10 + (i : Int),0,1,40,0,zcb (zx i) (i + 2),300 + (i : Int)⟩]):=Hd (by rw [List.range_succ,List.map_append]; rfl);generalize zcb (zx i) (i + 2) = cdq at *;generalize (List.range i).map zeX = rows at *;clear hrl htl;have htl:=htl2;clear htl2;have hneG : some G ≠ Value.ownBlock (.slice rA i rc):=fun e=>by have:=(hB1.out.r.block_lt e.symm).1; omega
      refine zT (C:=fun w1=>zc (fun b=>some b ≠ Value.ownBlock (.slice rA i rc)) wu w1) [true,true,true,true,true,true,true,true,true,true,true,false,false,false] [11,12,13] (by kernel_rfl) (by kernel_rfl) (by kernel_rfl) (fun _ h=>zc.of_below h _) ?A16 ?q16 ?t16
      case q16=>
       intro S1 hS1 hSC hne;have yG:=fun (u : zaP S1)=>(hB1.out.blk.keep (hSC u.wld u.mem) hneG).cell 2;simp at yG;have ya:=fun (u : zaP S1)=>(kTu.out.keep (hSC u.wld u.mem) hneTr).cell 0;have yb:=fun (u : zaP S1)=>(kTu.out.keep (hSC u.wld u.mem) hneTr).cell 4;have yc:=fun (u : zaP S1)=>((hSC u.wld u.mem).cell (b:=cb) (o:=co + 2) lcb hneCr).trans hc2.out;simp at ya yb;simp only [zbM,if_true,if_false,Bool.false_eq_true]
       repeat (go_big_quiet_step (fail))
       refine wpQuiet_nil ?_;rfl
      refine zB [11] (by kernel_rfl) fun j hj wa hba=>?_;obtain rfl:=mS.1 hj;refine ⟨_,rfl,rfl,zy (ops:=#[]) (K:=fun a' w'=>(∀ w2,Below w'.heap.size w' w2 -> (fun w1=>zc (fun b=>some b ≠ Value.ownBlock (.slice rA i rc)) wu w1) w2) /\ mkG Tryz.prog _ _ (fun w1=>zc (fun b=>some b ≠ Value.ownBlock (.slice rA i rc)) wu w1) _ 2 [12,13] a' w') rfl fun Q' hQ=>?_⟩;simp only [gX,gQ,gZ];have kx:=Hd (Blk.new wa 72 #[.int .i64 (10 + (i : Int)),.int .i64 0,.int .i64 1,.int .i64 40,.int .u8 0,.string cdq,.int .i64 (300 + (i : Int))]);have hbx:=Hd (zq hba (.cells #[.int .i64 (10 + (i : Int)),.int .i64 0,.int .i64 1,.int .i64 40,.int .u8 0,.string cdq,.int .i64 (300 + (i : Int))] 72));refine Go.Great.wpList_buildSliceTo rfl 28 72 1 _ rfl wa.heap.size rfl (some 94) rfl Tryz.underlying28 #[.int .i64 (10 + (i : Int)),.int .i64 0,.int .i64 1,.int .i64 40,.int .u8 0,.string cdq,.int .i64 (300 + (i : Int))] (by kernel_rfl) ?_;simp only [Act.put,sX,sS,sZ];refine hQ _ _ rfl ⟨fun w4 h4=>zc.of_below (za hbx.out h4) _,?_⟩;clear hQ hba;generalize wa.alloc (.cells #[.int .i64 (10 + (i : Int)),.int .i64 0,.int .i64 1,.int .i64 40,.int .u8 0,.string cdq,.int .i64 (300 + (i : Int))] 72) = wx at *;generalize wa.heap.size = NX at *;refine zB [12] (by kernel_rfl) fun j hj wb hbb=>?_;obtain rfl:=mS.1 hj;have hbw2:=Hd (za hbx.out hbb);have kb:=Hd (kx.out.below hbb kx.out.lt);have hBb:=Hd (hB1.out.up hbw2.out);have sd1 : rows.length + 1 <= maxLen:=by have:=htl.out; unfold maxLen; omega
      have sd2 : (rows.length + 1) * 64 <= 140737488355328:=by have:=htl.out; omega
      have sd3 : M + 1 <= wb.heap.size:=hBb.out.order.2.2;refine ⟨_,rfl,rfl,zy (ops:=#[]) (K:=fun a' w'=>(∀ w2,Below w'.heap.size w' w2 -> (fun w1=>zc (fun b=>some b ≠ Value.ownBlock (.slice rA i rc)) wu w1) w2) /\ mkG Tryz.prog _ _ (fun w1=>zc (fun b=>some b ≠ Value.ownBlock (.slice rA i rc)) wu w1) _ 1 [13] a' w') rfl fun Q' hQ=>?_⟩;simp only [gX,gQ,gZ];have hA:=Hd (fun (ops : Array Oper) (rest : List Oper) (o : Oper) (a : Act) (Q : Exit -> Act -> World -> Prop) hgd ho' hs hx h=>wpList_append_lies (P:=Tryz.prog) (ops:=ops) (rest:=rest) (o:=o) (a:=a) (Q:=Q) wb hgd (.tmp 84) (.tmp 94) 28 ho' (M + 1) 72 i72 (.agg #[.int .i64 0,.int .i64 0,.int .i64 0,.int .i64 0,.int .u8 0,.string ⟨#[]⟩,.int .i64 0]) 7 64 Tryz.underlying28 hi72 hz72 hy72 hw72 rfl (by decide) (.slice rA i rc) rows.length (rows.flatMap zbN) hs hBb.out.r.1 ⟨NX,0,none⟩ 1 1 [.int .i64 (10 + (i : Int)),.int .i64 0,.int .i64 1,.int .i64 40,.int .u8 0,.string cdq,.int .i64 (300 + (i : Int))] hx rfl (World.news_of_block (cs:=#[.int .i64 (10 + (i : Int)),.int .i64 0,.int .i64 1,.int .i64 40,.int .u8 0,.string cdq,.int .i64 (300 + (i : Int))]) kb.out) (zcY ⟨10 + (i : Int),0,1,40,0,cdq,300 + (i : Int)⟩) (by decide) sd1 sd2 sd3 _ rfl h);clear sd1 sd2 sd3;go_wp2_with (at_builtin; refine hA.out _ _ _ _ _ rfl rfl rfl rfl ?_; intro g cap1 wC hownC hgrC hatC hltC);have hkC:=Hd ((zc.of_below hbw2.out (fun b=>some b ≠ Value.ownBlock (.slice rA i rc))).trans (zc.of_grown hgrC fun _ hb=>hb));have hgr:=Hd hgrC;have how:=Hd hownC;have hat:=Hd hatC;clear hA hownC hgrC hatC hltC;refine hQ _ _ rfl ⟨fun w4 h4=>hkC.out.trans (zc.of_below h4 _),?_⟩;clear hQ;refine zag [13] (.pointer (some ⟨G,2,none⟩)) (by kernel_rfl) rfl (i:=13) rfl rfl (fun _ _=>rfl) (fun w2 h2=>hkC.out.trans (zc.of_below h2 _)) ?_;simp only [gX,gQ,gZ,Act.put,sX,sS,sZ];refine zaM rfl ?_;intro we hbe;have hgrE:=zgS hgr.out hbe;have kGE:=Blk.grown hBb.out.blk hgrE hneG;have s4:=kGE.cell 2;have f4:=kGE.frozen 2;have lE:=kGE.lt;simp at s4;have hB2:=Hd (BR.add_r (ls:=[⟨10 + (i : Int),0,1,40,0,cdq,300 + (i : Int)⟩]) hBb.out (zbi how.out hbe) rfl hgrE (hat.out.imp_right fun e=>by rw [e]; exact lQ _));have hkE:=Hd (hkC.out.trans (zc.of_below hbe (fun b=>some b ≠ Value.ownBlock (.slice rA i rc))));clear hgrE kGE hgr how hat hkC hbe hbw2 kb kx hbx hBb;have hfin:=Hd (show (tl ++ [(⟨⟨10 + (i : Int),((zx i : Nat) : Int),nm,rgq,zbt i⟩,some ⟨cb,co,none⟩,3,vc⟩ : zcG)]).map zcG.t = (List.range (i + 1)).map (zbF x) from by rw [List.map_append,hbr.out.2,List.range_succ,List.map_append,List.map_cons,List.map_nil,List.map_cons,List.map_nil,htq.out]);go_wp2;go_roundw
      case rel=>exact ⟨i + 1,_,_,_,by omega,by go_num,Hd ⟨by rw [hrows.out]; exact hB2.out,hfin.out⟩⟩
      case measure=>simp [intOf]; omega
     ·have e0 : ((i : Int) == 0) = false:=by simpa using hi0
      have e1 : (0 : Int) < (i : Int):=by omega
      have s2:=kT2.out.cell 2;have f2:=kT2.out.frozen 2;have lT:=kT2.out.lt;simp at s2;have hcv:=zhV wr2 (65 + (i : Int)) (65 + i) (by omega) (by omega);rw [show (⟨#[UInt8.ofNat (65 + i)]⟩ : ByteArray) = zaE i from rfl] at hcv;have hls : (zaE i).size = 1:=rfl;have hns : nm.size <= 100:=hnms;have hc32 : (⟨#[32]⟩ : ByteArray).size = 1:=rfl;have hl2 : ((⟨#[32]⟩ : ByteArray) ++ zaE i).size = 2:=by rw [ByteArray.size_append]; rfl
      have htq : Hid (zbF x i = ⟨10 + (i : Int),(zx i : Nat),nm ++ (⟨#[32]⟩ ++ zaE i),⟨#[]⟩,zbt i⟩):=Hd (by rw [htp.out,hnm.out,if_neg hi0,if_neg hi0]; rfl);clear hi0;generalize zaE i = lt1 at *
      have hq:=Hd (show Below Tn w' ((wr2.setCell ⟨Tn,2,none⟩ (.string (nm ++ (⟨#[32]⟩ ++ lt1)))).alloc (.cells #[.int .u8 (65 + (i : Int))] 5)) /\ Blk ((wr2.setCell ⟨Tn,2,none⟩ (.string (nm ++ (⟨#[32]⟩ ++ lt1)))).alloc (.cells #[.int .u8 (65 + (i : Int))] 5)) Tn 79 #[.int .i64 (10 + (i : Int)),.int .u8 ((zx i : Nat) : Int),.string (nm ++ (⟨#[32]⟩ ++ lt1)),.string ⟨#[]⟩,.slice (some ⟨cb,co,none⟩) 3 vc] /\ zdN (fun b=>Tn + 1 <= b) ((wr2.setCell ⟨Tn,2,none⟩ (.string (nm ++ (⟨#[32]⟩ ++ lt1)))).alloc (.cells #[.int .u8 (65 + (i : Int))] 5)) (.slice (some ⟨cb,co,none⟩) 3 vc) (zbt i) /\ zmi ((wr2.setCell ⟨Tn,2,none⟩ (.string (nm ++ (⟨#[32]⟩ ++ lt1)))).alloc (.cells #[.int .u8 (65 + (i : Int))] 5)) cb co i from by
       have hal:=(Below.refl (wr2.setCell ⟨Tn,2,none⟩ (.string (nm ++ (⟨#[32]⟩ ++ lt1)))).heap.size (wr2.setCell ⟨Tn,2,none⟩ (.string (nm ++ (⟨#[32]⟩ ++ lt1))))).alloc (lQ _) (.cells #[.int .u8 (65 + (i : Int))] 5)
       exact ⟨(hbr2.out.setCell (lQ _) _).alloc (by simpa [World.setCell] using hTl) _,(kT2.out.set_ 2 _).alloc _,(hcx'.out.keep (zc.set_ _ _ _ (by simp <;> omega)) (fun _ _ h=>h)).keep (zc.of_below hal _) (fun _ _ h=>h),(hc3'.out.keep (Q:=fun b=>Tn + 1 <= b) (zc.set_ _ _ _ (by simp <;> omega)) hcb).keep (Q:=fun b=>Tn + 1 <= b) (zc.of_below hal _) hcb⟩)
      go_upto_region 15 with fail;clear s2 f2 lT hcv hls hns hc32 hl2;generalize (wr2.setCell ⟨Tn,2,none⟩ (.string (nm ++ (⟨#[32]⟩ ++ lt1)))).alloc (.cells #[.int .u8 (65 + (i : Int))] 5) = wq at *;generalize nm ++ (⟨#[32]⟩ ++ lt1) = nm at hq htq ⊢;generalize (⟨#[]⟩ : ByteArray) = rgq at hq htq ⊢;have hBq:=Hd (hbw.out.up (by rw [hTq'.out]; exact hq.out.1));have kTq:=Hd hq.out.2.1
      have htl:=Hd (show tl.length = i by
       have:=congrArg List.length hbr.out.2
       simpa using this)
      have hneTt : some Tn ≠ Value.ownBlock (.slice tA tl.length tc):=fun e=>by have:=(hbw.out.t.block_lt e.symm).2; have:=hTq'.out; omega
      have hneCt : some cb ≠ Value.ownBlock (.slice tA tl.length tc):=fun e=>by have:=(hbw.out.t.block_lt e.symm).2; have:=hTq'.out; omega
      have hneTr : some Tn ≠ Value.ownBlock (.slice rA i rc):=fun e=>by have:=(hbw.out.r.block_lt e.symm).2; have:=hTq'.out; omega
      have hneCr : some cb ≠ Value.ownBlock (.slice rA i rc):=fun e=>by have:=(hbw.out.r.block_lt e.symm).2; have:=hTq'.out; omega
      have z0:=kTq.out.cell 0;have z1:=kTq.out.cell 1;have z2:=kTq.out.cell 2;have z3:=kTq.out.cell 3;have z4:=kTq.out.cell 4;have lTq:=kTq.out.lt;simp at z0 z1 z2 z3 z4;have hal:=Hd ((Below.refl wq.heap.size wq).alloc (lQ _) (.cells #[.int .i64 (10 + (i : Int)),.int .u8 ((zx i : Nat) : Int),.string nm,.string rgq,.slice (some ⟨cb,co,none⟩) 3 vc] 79));have hxq:=Hd ((hq.out.2.2.1.keep (Q':=zeW (M + 1) (.slice tA tl.length tc) (.slice none 0 0) (.slice rA i rc) (.slice none 0 0)) (zc.of_below hal.out _) fun b _ hb=>hbw.out.new_away (by have:=hTq'.out; omega)));have hneG : some G ≠ Value.ownBlock (.slice tA tl.length tc):=fun e=>by have:=(hBq.out.t.block_lt e.symm).1; omega
      have hkG:=hBq.out.blk;have g0:=hkG.cell 0;have lG:=hkG.lt;simp at g0;have hwn:=(Below.refl wq.heap.size wq).alloc (lQ _) (.cells #[.int .i64 (10 + (i : Int)),.int .u8 ((zx i : Nat) : Int),.string nm,.string rgq,.slice (some ⟨cb,co,none⟩) 3 vc] 79);have hBn:=Hd (hBq.out.up hwn);have sd1 : tl.length + 1 <= maxLen:=by have:=htl.out; unfold maxLen; omega
      have sd2 : (tl.length + 1) * 72 <= 140737488355328:=by have:=htl.out; omega
      have sd3 : M + 1 <= (wq.alloc (.cells #[.int .i64 (10 + (i : Int)),.int .u8 ((zx i : Nat) : Int),.string nm,.string rgq,.slice (some ⟨cb,co,none⟩) 3 vc] 79)).heap.size:=by have:=hBn.out.order.2.2; omega
      have hA:=Hd (fun (ops : Array Oper) (rest : List Oper) (o : Oper) (a : Act) (Q : Exit -> Act -> World -> Prop) hgd ho' hs hx h=>wpList_append_lies (P:=Tryz.prog) (ops:=ops) (rest:=rest) (o:=o) (a:=a) (Q:=Q) (wq.alloc (.cells #[.int .i64 (10 + (i : Int)),.int .u8 ((zx i : Nat) : Int),.string nm,.string rgq,.slice (some ⟨cb,co,none⟩) 3 vc] 79)) hgd (.tmp 78) (.tmp 80) 26 ho' (M + 1) 79 i79 (.agg #[.int .i64 0,.int .u8 0,.string ⟨#[]⟩,.string ⟨#[]⟩,.slice none 0 0]) 5 72 Tryz.underlying26 hi79 hz79 hy79 hw79 rfl (by decide) (.slice tA tl.length tc) tl.length (tl.flatMap zeg) hs hBn.out.t.1 ⟨wq.heap.size,0,none⟩ 1 1 [.int .i64 (10 + (i : Int)),.int .u8 ((zx i : Nat) : Int),.string nm,.string rgq,.slice (some ⟨cb,co,none⟩) 3 vc] hx rfl (World.news_of_block (cs:=#[.int .i64 (10 + (i : Int)),.int .u8 ((zx i : Nat) : Int),.string nm,.string rgq,.slice (some ⟨cb,co,none⟩) 3 vc]) (heap_alloc_new _ _)) (zhf ⟨⟨10 + (i : Int),((zx i : Nat) : Int),nm,rgq,zbt i⟩,some ⟨cb,co,none⟩,3,vc⟩) (by decide) sd1 sd2 sd3 _ rfl h);clear sd1 sd2 sd3 hkG;go_upto_region 16 with (first | (refine Go.Great.wpList_buildSliceTo rfl 26 79 1 _ rfl wq.heap.size rfl (some 80) rfl Tryz.underlying26 #[.int .i64 (10 + (i : Int)),.int .u8 ((zx i : Nat) : Int),.string nm,.string rgq,.slice (some ⟨cb,co,none⟩) 3 vc] (by kernel_rfl) ?_) | (at_builtin; refine hA.out _ _ _ _ _ rfl rfl rfl rfl ?_; intro g cap1 wC hownC hgrC hatC hltC; have kGC:=Blk.grown hBn.out.blk hgrC hneG; have y0:=kGC.cell 0; have yf:=kGC.frozen 0; have yl:=kGC.lt; simp only [List.getElem?_toArray,List.getElem?_cons_succ,List.getElem?_cons_zero] at y0; clear kGC));have hB1:=Hd (BR.add_t (ls:=[⟨⟨10 + (i : Int),((zx i : Nat) : Int),nm,rgq,zbt i⟩,some ⟨cb,co,none⟩,3,vc⟩]) hBn.out (fun y hy=>by rw [mS.1 hy]; exact hxq.out) hownC rfl hgrC (hatC.imp_right fun e=>by rw [e]; exact lQ _));have kTu:=Hd (((kTq.out.alloc (.cells #[.int .i64 (10 + (i : Int)),.int .u8 ((zx i : Nat) : Int),.string nm,.string rgq,.slice (some ⟨cb,co,none⟩) 3 vc] 79)).grown hgrC hneTt).far (p:=⟨G,0,none⟩) (by have:=hBq.out.order; simp; omega) (.slice (some ⟨g,0,none⟩) (tl.length + 1) cap1));have hcu:=Hd (((hq.out.2.2.2.keep (Q:=fun b=>some b ≠ Value.ownBlock (.slice tA tl.length tc)) (zc.of_below hal.out _) hneCt).keep (Q:=fun b=>some b ≠ Value.ownBlock (.slice tA tl.length tc)) (zc.of_grown hgrC fun _ hb=>hb) hneCt).keep (Q:=fun b=>Tn + 1 <= b) (zc.set_ wC ⟨G,0,none⟩ (.slice (some ⟨g,0,none⟩) (tl.length + 1) cap1) (by have:=hBq.out.order; simp; omega)) hcb);clear hA hownC hgrC hatC hltC y0 yf yl g0 lG hneG hwn hBn;generalize wC.setCell ⟨G,0,none⟩ (.slice (some ⟨g,0,none⟩) (tl.length + 1) cap1) = wu at *;clear z0 z1 z2 z3 z4 lTq hal hxq kTq hBq hq;have hcdq : Hid (zcb (zx i) (i + 2) = zcb (zx i) (i + 2)):=Hd rfl;have hc2:=Hd hcu.out.2.2.2;have lcb:=hcu.out.1;have hrl : ((List.range i).map zeX).length = i:=by simp
      have htl2:=Hd hrl;have hrows : Hid ((List.range (i + 1)).map zeX = (List.range i).map zeX ++ [⟨10 + (i : Int),0,1,40,0,zcb (zx i) (i + 2),300 + (i : Int)⟩]):=Hd (by rw [List.range_succ,List.map_append]; rfl);generalize zcb (zx i) (i + 2) = cdq at *;generalize (List.range i).map zeX = rows at *;clear hrl htl;have htl:=htl2;clear htl2;have hneG : some G ≠ Value.ownBlock (.slice rA i rc):=fun e=>by have:=(hB1.out.r.block_lt e.symm).1; omega
      refine zT (C:=fun w1=>zc (fun b=>some b ≠ Value.ownBlock (.slice rA i rc)) wu w1) [true,true,true,true,true,true,true,true,true,true,true,false,false,false] [11,12,13] (by kernel_rfl) (by kernel_rfl) (by kernel_rfl) (fun _ h=>zc.of_below h _) ?A16b ?q16b ?t16b
      case q16b=>
       intro S1 hS1 hSC hne;have yG:=fun (u : zaP S1)=>(hB1.out.blk.keep (hSC u.wld u.mem) hneG).cell 2;simp at yG;have ya:=fun (u : zaP S1)=>(kTu.out.keep (hSC u.wld u.mem) hneTr).cell 0;have yb:=fun (u : zaP S1)=>(kTu.out.keep (hSC u.wld u.mem) hneTr).cell 4;have yc:=fun (u : zaP S1)=>((hSC u.wld u.mem).cell (b:=cb) (o:=co + 2) lcb hneCr).trans hc2.out;simp at ya yb;simp only [zbM,if_true,if_false,Bool.false_eq_true]
       repeat (go_big_quiet_step (fail))
       refine wpQuiet_nil ?_;rfl
      refine zB [11] (by kernel_rfl) fun j hj wa hba=>?_;obtain rfl:=mS.1 hj;refine ⟨_,rfl,rfl,zy (ops:=#[]) (K:=fun a' w'=>(∀ w2,Below w'.heap.size w' w2 -> (fun w1=>zc (fun b=>some b ≠ Value.ownBlock (.slice rA i rc)) wu w1) w2) /\ mkG Tryz.prog _ _ (fun w1=>zc (fun b=>some b ≠ Value.ownBlock (.slice rA i rc)) wu w1) _ 2 [12,13] a' w') rfl fun Q' hQ=>?_⟩;simp only [gX,gQ,gZ];have kx:=Hd (Blk.new wa 72 #[.int .i64 (10 + (i : Int)),.int .i64 0,.int .i64 1,.int .i64 40,.int .u8 0,.string cdq,.int .i64 (300 + (i : Int))]);have hbx:=Hd (zq hba (.cells #[.int .i64 (10 + (i : Int)),.int .i64 0,.int .i64 1,.int .i64 40,.int .u8 0,.string cdq,.int .i64 (300 + (i : Int))] 72));refine Go.Great.wpList_buildSliceTo rfl 28 72 1 _ rfl wa.heap.size rfl (some 94) rfl Tryz.underlying28 #[.int .i64 (10 + (i : Int)),.int .i64 0,.int .i64 1,.int .i64 40,.int .u8 0,.string cdq,.int .i64 (300 + (i : Int))] (by kernel_rfl) ?_;simp only [Act.put,sX,sS,sZ];refine hQ _ _ rfl ⟨fun w4 h4=>zc.of_below (za hbx.out h4) _,?_⟩;clear hQ hba;generalize wa.alloc (.cells #[.int .i64 (10 + (i : Int)),.int .i64 0,.int .i64 1,.int .i64 40,.int .u8 0,.string cdq,.int .i64 (300 + (i : Int))] 72) = wx at *;generalize wa.heap.size = NX at *;refine zB [12] (by kernel_rfl) fun j hj wb hbb=>?_;obtain rfl:=mS.1 hj;have hbw2:=Hd (za hbx.out hbb);have kb:=Hd (kx.out.below hbb kx.out.lt);have hBb:=Hd (hB1.out.up hbw2.out);have sd1 : rows.length + 1 <= maxLen:=by have:=htl.out; unfold maxLen; omega
      have sd2 : (rows.length + 1) * 64 <= 140737488355328:=by have:=htl.out; omega
      have sd3 : M + 1 <= wb.heap.size:=hBb.out.order.2.2;refine ⟨_,rfl,rfl,zy (ops:=#[]) (K:=fun a' w'=>(∀ w2,Below w'.heap.size w' w2 -> (fun w1=>zc (fun b=>some b ≠ Value.ownBlock (.slice rA i rc)) wu w1) w2) /\ mkG Tryz.prog _ _ (fun w1=>zc (fun b=>some b ≠ Value.ownBlock (.slice rA i rc)) wu w1) _ 1 [13] a' w') rfl fun Q' hQ=>?_⟩;simp only [gX,gQ,gZ];have hA:=Hd (fun (ops : Array Oper) (rest : List Oper) (o : Oper) (a : Act) (Q : Exit -> Act -> World -> Prop) hgd ho' hs hx h=>wpList_append_lies (P:=Tryz.prog) (ops:=ops) (rest:=rest) (o:=o) (a:=a) (Q:=Q) wb hgd (.tmp 84) (.tmp 94) 28 ho' (M + 1) 72 i72 (.agg #[.int .i64 0,.int .i64 0,.int .i64 0,.int .i64 0,.int .u8 0,.string ⟨#[]⟩,.int .i64 0]) 7 64 Tryz.underlying28 hi72 hz72 hy72 hw72 rfl (by decide) (.slice rA i rc) rows.length (rows.flatMap zbN) hs hBb.out.r.1 ⟨NX,0,none⟩ 1 1 [.int .i64 (10 + (i : Int)),.int .i64 0,.int .i64 1,.int .i64 40,.int .u8 0,.string cdq,.int .i64 (300 + (i : Int))] hx rfl (World.news_of_block (cs:=#[.int .i64 (10 + (i : Int)),.int .i64 0,.int .i64 1,.int .i64 40,.int .u8 0,.string cdq,.int .i64 (300 + (i : Int))]) kb.out) (zcY ⟨10 + (i : Int),0,1,40,0,cdq,300 + (i : Int)⟩) (by decide) sd1 sd2 sd3 _ rfl h);clear sd1 sd2 sd3;go_wp2_with (at_builtin; refine hA.out _ _ _ _ _ rfl rfl rfl rfl ?_; intro g cap1 wC hownC hgrC hatC hltC);have hkC:=Hd ((zc.of_below hbw2.out (fun b=>some b ≠ Value.ownBlock (.slice rA i rc))).trans (zc.of_grown hgrC fun _ hb=>hb));have hgr:=Hd hgrC;have how:=Hd hownC;have hat:=Hd hatC;clear hA hownC hgrC hatC hltC;refine hQ _ _ rfl ⟨fun w4 h4=>hkC.out.trans (zc.of_below h4 _),?_⟩;clear hQ;refine zag [13] (.pointer (some ⟨G,2,none⟩)) (by kernel_rfl) rfl (i:=13) rfl rfl (fun _ _=>rfl) (fun w2 h2=>hkC.out.trans (zc.of_below h2 _)) ?_;simp only [gX,gQ,gZ,Act.put,sX,sS,sZ];refine zaM rfl ?_;intro we hbe;have hgrE:=zgS hgr.out hbe;have kGE:=Blk.grown hBb.out.blk hgrE hneG;have s4:=kGE.cell 2;have f4:=kGE.frozen 2;have lE:=kGE.lt;simp at s4;have hB2:=Hd (BR.add_r (ls:=[⟨10 + (i : Int),0,1,40,0,cdq,300 + (i : Int)⟩]) hBb.out (zbi how.out hbe) rfl hgrE (hat.out.imp_right fun e=>by rw [e]; exact lQ _));have hkE:=Hd (hkC.out.trans (zc.of_below hbe (fun b=>some b ≠ Value.ownBlock (.slice rA i rc))));clear hgrE kGE hgr how hat hkC hbe hbw2 kb kx hbx hBb;have hfin:=Hd (show (tl ++ [(⟨⟨10 + (i : Int),((zx i : Nat) : Int),nm,rgq,zbt i⟩,some ⟨cb,co,none⟩,3,vc⟩ : zcG)]).map zcG.t = (List.range (i + 1)).map (zbF x) from by rw [List.map_append,hbr.out.2,List.range_succ,List.map_append,List.map_cons,List.map_nil,List.map_cons,List.map_nil,htq.out]);go_wp2;go_roundw
      case rel=>exact ⟨i + 1,_,_,_,by omega,by go_num,Hd ⟨by rw [hrows.out]; exact hB2.out,hfin.out⟩⟩
      case measure=>simp [intOf]; omega
  ·obtain rfl : i = zK x:=by omega
   have n1 : ¬ ((zK x : Nat) : Int) < 1 + (x.towns : Int) % 5:=by unfold zK; omega
   rename_i Qx Kx ax
   revert x w cA cc pA pc hs' i79 hi79 hz79 hy79 hw79 i83 hi83 hz83 hy83 hw83 i72 hi72 hz72 hy72 hw72 i33 hi33 hz33 hy33 hw33 i9 hi9 hz9 hy9 hw9 htw hst Qx W0 G R hR1 hG2 Kx ax W kS1 kR1 hb1 M hGM kN hbr0 wr u6 u7 u21 u22 u23 u24 u25 u26 u27 u28 u29 u30 u31 u32 u33 u34 u35 u36 u37 u38 u39 u40 u41 u42 u43 u44 u45 u46 u47 u48 u49 u50 u51 u52 u53 u54 u55 u56 u57 u58 u59 u60 u61 u62 u63 u64 u65 u66 u67 u68 u69 u70 u71 u72 u73 u74 u75 u76 u77 u78 u79 u80 u81 u82 u83 u84 u85 u86 u87 u88 u89 u90 u91 u92 u93 u94 u95 u96 vt vr tl hN5 k25 l25 c0 c2 hi hbr n0 hlt n1
   exact hG.out
end
end Go.Proofs.YtggimnndflkjkaaGreatDoor
