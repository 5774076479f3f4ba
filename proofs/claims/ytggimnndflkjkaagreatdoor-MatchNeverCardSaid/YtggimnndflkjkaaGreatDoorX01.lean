import Derived.Test.YtggimnndflkjkaaGreatDoorC01
import Derived.Test.YtggimnndflkjkaaGreatDoorC27
import Derived.Test.YtggimnndflkjkaaGreatDoorC41
import Derived.Test.YtggimnndflkjkaaGreatDoorC46
import Derived.Test.YtggimnndflkjkaaGreatDoorC47
import Derived.Deep.Upon
import Derived.Deep.DeepCutAuto
import Derived.Lib.ItoaMem
set_option linter.all false
set_option maxRecDepth 100000
set_option maxHeartbeats 0
namespace Go.Proofs.YtggimnndflkjkaaGreatDoor
section
open Go.RowKit Go.Maps
theorem zdP {w : World} {E : TypeId} {k : Nat} : (w.alloc (.cells #[] E)).ownsRow w.heap.size E k (.slice (some ⟨w.heap.size,0,none⟩) 0 0) 0 []:=
 ⟨by simp,.inr ⟨w.heap.size,0,#[],rfl,lQ _,heap_alloc_new _ _,lQ _,by decide,by simp,by simp⟩⟩
theorem zgQ {α : Type} {f : α -> List Value} (hf : ∀ a,∀ v ∈ f a,v.oneCell' = true) (l : List α) : ∀ v ∈ l.flatMap f,v.oneCell' = true:=fun v hv=>by
 obtain ⟨a,-,h⟩:=List.mem_flatMap.1 hv;exact hf a v h
structure Way (w6 w7 w : World) : Prop where
 below : Below w6.heap.size w6 w
 keeps : zc (fun b=>b < w7.heap.size) w7 w
theorem Way.up {w6 w7 w w' : World} (h : Way w6 w7 w) (hb : Below w.heap.size w w') : Way w6 w7 w':=⟨h.below.trans (hb.mono h.below.size),h.keeps.trans (zc.of_below hb _)⟩
theorem Way.grown {w6 w7 w w' : World} (h : Way w6 w7 w) {N : Nat} (hN : w7.heap.size <= N) (h67 : w6.heap.size <= w7.heap.size) (hg : w.grownBy w' (some N)) : Way w6 w7 w':=
 ⟨h.below.grown hg h.below.size (fun g e=>by have e2 : N = g:=Option.some.inj e; omega),h.keeps.trans (zc.of_grown hg fun b hb e=>by have e2 : b = N:=Option.some.inj e; omega)⟩
theorem zdt {P : Nat -> Prop} {w w' : World} {b o : Nat} {news : List Value} (h : ∀ j u,news[j]? = some u -> w.cell? ((⟨b,o,none⟩ : Addr).add j) = some u) (hb : b < w.heap.size) (hk : zc P w w') (hp : P b) : ∀ j u,news[j]? = some u -> w'.cell? ((⟨b,o,none⟩ : Addr).add j) = some u:=fun j u hu=>by
 have h1:=h j u hu;rw [Go.WideShapes.add_plain] at h1 ⊢;rw [<- h1];exact hk.cell hb hp
theorem zls {w1 w2 : World} {base : Nat} {e : TypeId} {k : Nat} {v : Value} {n : Nat} {xs : List Value} (h : w1.ownsRow base e k v n xs) (hb : Below w1.heap.size w1 w2) : w2.ownsRow base e k v n xs:=by
 refine ⟨h.1,?_⟩;rcases h.2 with h0 | ⟨g,cap,cur,e1,h1,hg,h2⟩
 ·exact .inl h0
 ·exact .inr ⟨g,cap,cur,e1,h1,(hb.block g (Array.getElem?_eq_some_iff.1 hg).1).trans hg,h2⟩
def zjU (kd : Int) (s : ByteArray) (p : zu) : zu:=if p.kind = kd then ⟨p.kind,s⟩ else p
def zdW (kd : Int) (s : ByteArray) (ps : List zu) : List zu:=ps.map (zjU kd s)
def zdx (kd : Int) (s : ByteArray) (ps : List zu) (k : Nat) : List zu:=(ps.take k).map (zjU kd s) ++ ps.drop k
theorem ztN (kd : Int) (s : ByteArray) (ps : List zu) (k : Nat) : (zdx kd s ps k).length = ps.length:=by
 unfold zdx;rw [List.length_append,List.length_map,<- List.length_append,List.take_append_drop]
theorem zrs (kd : Int) (s : ByteArray) (ps : List zu) : zdx kd s ps 0 = ps:=by simp [zdx]
theorem ztM (kd : Int) (s : ByteArray) (ps : List zu) : zdx kd s ps ps.length = zdW kd s ps:=by simp [zdx,zdW]
theorem zwn (kd : Int) (s : ByteArray) (ps : List zu) (k : Nat) (h : k < ps.length) (h' : k < (zdx kd s ps k).length) : (zdx kd s ps k)[k] = ps.getD k zu.zero:=by
 have hl : ((ps.take k).map (zjU kd s)).length = k:=by rw [List.length_map,List.length_take]; omega
 rw [zD _ _ _ h];unfold zdx at h' ⊢;rw [List.getElem_append_right (by omega)];simp [List.getElem_drop,Nat.min_eq_left (Nat.le_of_lt h)]
theorem zrr (kd : Int) (s : ByteArray) (ps : List zu) (k : Nat) (h : k < ps.length) : zdx kd s ps (k + 1) = (zdx kd s ps k).set k (zjU kd s (ps.getD k zu.zero)):=by
 have hl : ((ps.take k).map (zjU kd s)).length = k:=by rw [List.length_map,List.length_take]; omega
 unfold zdx;rw [List.set_append_right _ _ (by omega),hl,Nat.sub_self,zaI ps zu.zero k h,sZ,List.take_succ_eq_append_getElem h,List.map_append,List.append_assoc,zD _ _ _ h];rfl
theorem set_self {α : Type} (l : List α) (k : Nat) (h : k < l.length) : l.set k l[k] = l:=by simp
theorem zfw {P : Nat -> Prop} (w : World) (g : Nat) (cs : Array Value) (hg : ¬ P g) : zc P w (w.setRow g cs):=by
 refine ⟨by simp,fun b hb h1=>?_⟩;simp [World.setRow,Array.getElem?_modify];intro e; subst e; exact absurd h1 hg
structure zxZ (w : World) (O R NX g : Nat) (c : Int) (n cap : Nat) (ps : List zu) (we : World) : Prop where
 below : Below w.heap.size w we
 res : Blk we R 39 #[.int .u8 0,.slice none 0 0]
 out : Blk we O 39 #[.int .u8 c,.slice (some ⟨g,0,none⟩) n cap]
 apart : some O ≠ some g
 low : R < NX /\ R < O
 own : zaD NX we (.slice (some ⟨g,0,none⟩) n cap) ps
theorem zqH {B n cap : Nat} {w : World} {g : Nat} {ps : List zu} (h : zaD B w (.slice (some ⟨g,0,none⟩) n cap) ps) (k : Nat) (hk : k < ps.length) :
  g < w.heap.size /\ w.cell? ⟨g,k * 2,none⟩ = some (.int .u8 ps[k].kind) /\ w.cell? ⟨g,k * 2 + 1,none⟩ = some (.string ps[k].text) /\ w.frozen? ⟨g,k * 2 + 1,none⟩ = false:=by
 have hf:=zho h.1 (g:=g) rfl (k * 2 + 1);obtain ⟨A,c',e,-,-,h3⟩:=h.sl (fun _=>rfl);injection e with e1 e2 e3;obtain ⟨b,off,e4,hb,-,hi⟩:=h3 (by omega);rw [e4] at e1;injection e1 with e5;injection e5 with e6 e7;obtain ⟨rfl,-,hc⟩:=hi k hk;subst e6;have c0:=hc hk 0 (by omega);have c1:=hc hk 1 (by omega);simp only [zak,List.getElem?_cons_zero,List.getElem?_cons_succ,Nat.zero_add,Nat.add_zero] at c0 c1;exact ⟨hb,c0,c1,hf⟩
theorem znR (c : Int) (pv : Value) (ps : List zu) (kd : Int) (s : ByteArray) (w : World) (hv : zav w pv ps) (hl : ps.length <= 1000) (h0 : 0 < ps.length) :
  Calls Tryz.prog 17 #[.agg #[.int .u8 c,pv],.int .u8 kd,.string s] w fun e w'=>∃ v,e = .returned (.agg #[.int .u8 c,v]) /\ zaD w.heap.size w' v (zdW kd s ps) /\ Below w.heap.size w w':=by
 obtain ⟨rb,ro,cap,rfl,hrb0,hrc0⟩:=zoS hv h0;clear hv;obtain ⟨i0,hi0,hz0,hz1,hz2⟩:=info_parts zoA;have hone:=Hd (zgQ zbB ps);have hfl:=Hd (zfN zak 2 (fun _=>rfl) ps);have kG:=Hd (Blk.new w 39 #[.int .u8 c,.slice (some ⟨rb,ro,none⟩) ps.length cap]);go_enter Tryz.func17,Tryz.ntmps17;have hb0:=(((Below.refl w.heap.size w).alloc (lQ _) (.cells #[.int .u8 c,.slice (some ⟨rb,ro,none⟩) ps.length cap] 39)).alloc (by simp) (.cells #[.int .u8 0,.slice none 0 0] 39));have kG2:=Hd (kG.out.alloc (.cells #[.int .u8 0,.slice none 0 0] 39));have kR:=Hd (Blk.new_at (w.alloc (.cells #[.int .u8 c,.slice (some ⟨rb,ro,none⟩) ps.length cap] 39)) 39 #[.int .u8 0,.slice none 0 0] (w.heap.size + 1) (by simp));have hrb : rb < ((w.alloc (.cells #[.int .u8 c,.slice (some ⟨rb,ro,none⟩) ps.length cap] 39)).alloc (.cells #[.int .u8 0,.slice none 0 0] 39)).heap.size:=Nat.lt_of_lt_of_le hrb0 hb0.size;have hsrc:=Hd (zdt hrc0 hrb0 (zc.of_below hb0 (fun _=>True)) trivial);have hW:=Hd (show Way w ((w.alloc (.cells #[.int .u8 c,.slice (some ⟨rb,ro,none⟩) ps.length cap] 39)).alloc (.cells #[.int .u8 0,.slice none 0 0] 39)) ((w.alloc (.cells #[.int .u8 c,.slice (some ⟨rb,ro,none⟩) ps.length cap] 39)).alloc (.cells #[.int .u8 0,.slice none 0 0] 39)) from ⟨hb0,zc.of_below (Below.refl _ _) _⟩);have hwW:=hb0.size;clear hb0 hrc0 hrb0;have hR0 : w.heap.size < w.heap.size + 1:=by omega
 go_upto_region 1 with fail;generalize (w.alloc (.cells #[.int .u8 c,.slice (some ⟨rb,ro,none⟩) ps.length cap] 39)).alloc (.cells #[.int .u8 0,.slice none 0 0] 39) = W at *;generalize w.heap.size + 1 = R at *;have H7:=Hd (lQ W.heap.size)
 go_cut [7] (fun s7 wx=>∃ O NX g cap1,s7 = .pointer (some ⟨O,0,none⟩) /\ Hid (zxZ w O R NX g c ps.length cap1 ps wx))
 case first=>
  refine zT (C:=fun wc=>zc (fun b=>b < W.heap.size) W wc) [true,true,false,true,true,false,false,false] [2,5,6,7] (by kernel_rfl) (by kernel_rfl) (by kernel_rfl) (fun _ h=>zc.of_below h _) ?A1 ?q1 ?t1
  case q1=>
   intro S1 hS1 hSC hne;have y0:=fun (u : zaP S1)=>(kG2.out.keep (hSC u.wld u.mem) kG2.out.lt).cell 0;have y1:=fun (u : zaP S1)=>(kG2.out.keep (hSC u.wld u.mem) kG2.out.lt).cell 1;simp at y0 y1;simp only [zbM,if_true,if_false,Bool.false_eq_true]
   repeat (go_big_quiet_step (fail))
   refine wpQuiet_nil ?_;rfl
  refine zB [2,7] (by kernel_rfl) fun j hj wa hba=>?_;have hjj : j = 2 \/ j = 7:=by simpa using hj
  obtain rfl | rfl:=hjj
  ·refine ⟨_,rfl,rfl,zy (ops:=#[]) (K:=fun a' w'=>(∀ w9,Below w'.heap.size w' w9 -> (fun wc=>zc (fun b=>b < W.heap.size) W wc) w9) /\ mkG Tryz.prog _ _ (fun wc=>zc (fun b=>b < W.heap.size) W wc) _ 3 [5,6,7] a' w') rfl fun Q' hQ=>?_⟩
   simp only [gX,gQ,gZ];have hown:=Hd (zdP (w:=wa) (E:=50) (k:=2));have hW:=Hd ((hW.out.up hba).up ((Below.refl wa.heap.size wa).alloc (lQ _) (.cells #[] 50)));have hNX : W.heap.size <= wa.heap.size:=Nat.le_trans H7.out hba.size;have hNXs:=Hd (show wa.heap.size + 1 <= (wa.alloc (.cells #[] 50)).heap.size by simp);go_wp2;refine hQ _ _ rfl ⟨fun w4 h4=>(hW.out.up h4).keeps,?_⟩;clear hQ;have H7:=Hd (show W.heap.size <= (wa.alloc (.cells #[] 50)).heap.size by have:=hNXs.out; omega);clear hba;generalize wa.alloc (.cells #[] 50) = wx at *;generalize wa.heap.size = NX at *;refine zB [5,7] (by kernel_rfl) fun j hj wa hba=>?_;have hjj : j = 5 \/ j = 7:=by simpa using hj
   obtain rfl | rfl:=hjj
   ·refine ⟨_,rfl,rfl,zy (ops:=#[]) (K:=fun a' w'=>(∀ w9,Below w'.heap.size w' w9 -> (fun wc=>zc (fun b=>b < W.heap.size) W wc) w9) /\ mkG Tryz.prog _ _ (fun wc=>zc (fun b=>b < W.heap.size) W wc) _ 2 [6,7] a' w') rfl fun Q' hQ=>?_⟩
    simp only [gX,gQ,gZ];have hW:=Hd (hW.out.up hba);have hown:=Hd (zls hown.out hba);have H7:=Hd (Nat.le_trans H7.out hba.size);have hNXs:=Hd (Nat.le_trans hNXs.out hba.size);have hA:=Hd (fun (ops : Array Oper) (rest : List Oper) (o : Oper) (a : Act) (Q : Exit -> Act -> World -> Prop) hgd ho' hs hx h=>wpList_append_lies (P:=Tryz.prog) (ops:=ops) (rest:=rest) (o:=o) (a:=a) (Q:=Q) wa hgd (.tmp 11) (.tmp 13) 37 ho' NX 50 i0 (.agg #[.int .u8 0,.string ⟨#[]⟩]) 2 24 Tryz.underlying37 hi0 hz0 hz1 hz2 rfl (by decide) (.slice (some ⟨NX,0,none⟩) 0 0) 0 [] hs hown.out ⟨rb,ro,none⟩ ps.length cap (ps.flatMap zak) hx hfl.out (zdt hsrc.out hrb hW.out.keeps hrb) hone.out h0 (by unfold maxLen; omega) (by omega) (Nat.le_of_succ_le hNXs.out) _ rfl h);have hwaH:=Hd H7.out;go_wp2_with (at_builtin; refine hA.out _ _ _ _ _ rfl rfl rfl rfl ?_; intro g cap1 wC hownC hgrC hatC hltC);rw [Nat.zero_add] at hownC;have hW:=Hd (hW.out.grown hNX hwW hgrC);have hown:=Hd hownC;have H7:=Hd (Nat.le_trans H7.out hgrC.size);have hNXs:=Hd (Nat.le_trans hNXs.out hgrC.size);have hgl:=Hd hltC;refine hQ _ _ rfl ⟨fun w4 h4=>(hW.out.up h4).keeps,?_⟩;clear hQ;clear hA hownC hgrC hatC hltC hba hwaH;refine zag [6,7] (.agg #[.int .u8 c,.slice (some ⟨g,0,none⟩) ps.length cap1]) (by kernel_rfl) rfl (i:=6) rfl rfl (fun _ _=>by simp [go_sem,execOp]) (fun w2 h2=>(hW.out.up h2).keeps) ?_;simp only [gX,gQ,gZ,Act.put,sX,sS,sZ];refine zB [7] (by kernel_rfl) fun j hj wa hba=>?_;obtain rfl:=mS.1 hj;refine ⟨_,rfl,rfl,zy (ops:=#[]) (K:=fun a' w'=>(∀ w9,Below w'.heap.size w' w9 -> (fun wc=>zc (fun b=>b < W.heap.size) W wc) w9) /\ mkG Tryz.prog _ _ (fun wc=>zc (fun b=>b < W.heap.size) W wc) _ 0 [] a' w') rfl fun Q' hQ=>?_⟩;simp only [gX,gQ,gZ];have kO:=Hd (Blk.new wa 39 #[.int .u8 0,.slice none 0 0]);have hW:=Hd ((hW.out.up hba).up ((Below.refl wa.heap.size wa).alloc (lQ _) (.cells #[.int .u8 0,.slice none 0 0] 39)));have hOW:=Hd (Nat.le_trans H7.out hba.size);have H7:=Hd (show W.heap.size <= (wa.alloc (.cells #[.int .u8 0,.slice none 0 0] 39)).heap.size by have:=hOW.out; simp; omega);have hown:=Hd (zls (zls hown.out hba) ((Below.refl wa.heap.size wa).alloc (lQ _) (.cells #[.int .u8 0,.slice none 0 0] 39)));have hO:=Hd (show NX < wa.heap.size by have:=hNXs.out; have:=hba.size; omega);have hNXs:=Hd (show NX + 1 <= (wa.alloc (.cells #[.int .u8 0,.slice none 0 0] 39)).heap.size by have:=hO.out; simp; omega);have hgO:=Hd (show some wa.heap.size ≠ some g from fun e=>by have e2 : wa.heap.size = g:=Option.some.inj e; have h1:=hgl.out; have h2:=hba.size; omega);go_wp2;refine hQ _ _ rfl ⟨fun w4 h4=>(hW.out.up h4).keeps,?_⟩;clear hQ;clear hba;generalize wa.alloc (.cells #[.int .u8 0,.slice none 0 0] 39) = wx at *;generalize wa.heap.size = O at *;refine zaM rfl ?_;intro we hbe;have kOe:=Hd (kO.out.below hbe kO.out.lt);have hWe:=hW.out.up hbe;have how:=zaw.keep ze (show zaD NX _ (.slice (some ⟨g,0,none⟩) ps.length cap1) ps from ⟨hown.out,fun _ _=>trivial⟩) (zc.of_below hbe _);have hOW0:=hOW.out;have hfin:=Hd (show zxZ w O R NX g c ps.length cap1 ps (we.setRow O #[.int .u8 c,.slice (some ⟨g,0,none⟩) ps.length cap1]) from ⟨Below.setRow_ hWe.below (by have:=kR.out.lt; omega) _,Blk.setRow_far (kR.out.keep hWe.keeps kR.out.lt) (by have:=kR.out.lt; omega) _,kOe.out.setRow_ _,hgO.out,by have:=kR.out.lt; omega,zaw.far (fun _ _ _ _ _ _=>trivial) how fun b hb=>(zfw (P:=fun b=>b ≠ O) we O #[.int .u8 c,.slice (some ⟨g,0,none⟩) ps.length cap1] (fun h=>h rfl)).block b (how.block_lt hb).2 (fun e=>hgO.out (by rw [<- e]; exact hb.symm))⟩)
    refine wpList_store_rowTo rfl 39 _ _ rfl rfl O #[.int .u8 c,.slice (some ⟨g,0,none⟩) ps.length cap1] rfl rfl 39 _ kOe.out (by kernel_rfl) rfl (by kernel_rfl) ?_;clear hbe hWe kOe how hOW0;go_wp2;go_meet
    case rel=>exact ⟨_,_,_,_,rfl,hfin⟩
   ·refine ⟨_,rfl,rfl,zy (ops:=#[]) (K:=fun a' w'=>(∀ w9,Below w'.heap.size w' w9 -> (fun wc=>zc (fun b=>b < W.heap.size) W wc) w9) /\ mkG Tryz.prog _ _ (fun wc=>zc (fun b=>b < W.heap.size) W wc) _ 2 [5,6] a' w') rfl fun Q' hQ=>?_⟩
    simp only [gX,gQ,gZ];have kO:=Hd (Blk.new wa 39 #[.int .u8 0,.slice none 0 0]);have hW:=Hd ((hW.out.up hba).up ((Below.refl wa.heap.size wa).alloc (lQ _) (.cells #[.int .u8 0,.slice none 0 0] 39)));have hOW:=Hd (Nat.le_trans H7.out hba.size);have H7:=Hd (show W.heap.size <= (wa.alloc (.cells #[.int .u8 0,.slice none 0 0] 39)).heap.size by have:=hOW.out; simp; omega);have hown:=Hd (zls (zls hown.out hba) ((Below.refl wa.heap.size wa).alloc (lQ _) (.cells #[.int .u8 0,.slice none 0 0] 39)));have hO:=Hd (show NX < wa.heap.size by have:=hNXs.out; have:=hba.size; omega);have hNXs:=Hd (show NX + 1 <= (wa.alloc (.cells #[.int .u8 0,.slice none 0 0] 39)).heap.size by have:=hO.out; simp; omega);go_wp2;refine hQ _ _ rfl ⟨fun w4 h4=>(hW.out.up h4).keeps,?_⟩;clear hQ;clear hba;generalize wa.alloc (.cells #[.int .u8 0,.slice none 0 0] 39) = wx at *;generalize wa.heap.size = O at *;refine zB [5] (by kernel_rfl) fun j hj wa hba=>?_;obtain rfl:=mS.1 hj;refine ⟨_,rfl,rfl,zy (ops:=#[]) (K:=fun a' w'=>(∀ w9,Below w'.heap.size w' w9 -> (fun wc=>zc (fun b=>b < W.heap.size) W wc) w9) /\ mkG Tryz.prog _ _ (fun wc=>zc (fun b=>b < W.heap.size) W wc) _ 1 [6] a' w') rfl fun Q' hQ=>?_⟩;simp only [gX,gQ,gZ];have hW:=Hd (hW.out.up hba);have hown:=Hd (zls hown.out hba);have H7:=Hd (Nat.le_trans H7.out hba.size);have hNXs:=Hd (Nat.le_trans hNXs.out hba.size);have kO:=Hd (kO.out.below hba kO.out.lt);have hOl:=Hd kO.out.lt;have hA:=Hd (fun (ops : Array Oper) (rest : List Oper) (o : Oper) (a : Act) (Q : Exit -> Act -> World -> Prop) hgd ho' hs hx h=>wpList_append_lies (P:=Tryz.prog) (ops:=ops) (rest:=rest) (o:=o) (a:=a) (Q:=Q) wa hgd (.tmp 11) (.tmp 13) 37 ho' NX 50 i0 (.agg #[.int .u8 0,.string ⟨#[]⟩]) 2 24 Tryz.underlying37 hi0 hz0 hz1 hz2 rfl (by decide) (.slice (some ⟨NX,0,none⟩) 0 0) 0 [] hs hown.out ⟨rb,ro,none⟩ ps.length cap (ps.flatMap zak) hx hfl.out (zdt hsrc.out hrb hW.out.keeps hrb) hone.out h0 (by unfold maxLen; omega) (by omega) (Nat.le_of_succ_le hNXs.out) _ rfl h);have hwaH:=Hd H7.out;go_wp2_with (at_builtin; refine hA.out _ _ _ _ _ rfl rfl rfl rfl ?_; intro g cap1 wC hownC hgrC hatC hltC);rw [Nat.zero_add] at hownC;have kO:=Hd (kO.out.grown hgrC (fun e=>by have e2 : O = NX:=Option.some.inj e; have:=hO.out; omega))
    have hgO:=Hd (show some O ≠ some g from fun e=>by
     have e2 : O = g:=Option.some.inj e;rcases hatC with h | h
     ·have e3 : NX = g:=Option.some.inj h
      have:=hO.out;omega
     ·have:=hOl.out
      omega)
    have hW:=Hd (hW.out.grown hNX hwW hgrC);have hown:=Hd hownC;have H7:=Hd (Nat.le_trans H7.out hgrC.size);have hNXs:=Hd (Nat.le_trans hNXs.out hgrC.size);have hgl:=Hd hltC;refine hQ _ _ rfl ⟨fun w4 h4=>(hW.out.up h4).keeps,?_⟩;clear hQ;clear hA hownC hgrC hatC hltC hba hwaH;refine zag [6] (.agg #[.int .u8 c,.slice (some ⟨g,0,none⟩) ps.length cap1]) (by kernel_rfl) rfl (i:=6) rfl rfl (fun _ _=>by simp [go_sem,execOp]) (fun w2 h2=>(hW.out.up h2).keeps) ?_;simp only [gX,gQ,gZ,Act.put,sX,sS,sZ];refine zaM rfl ?_;intro we hbe;have kOe:=Hd (kO.out.below hbe kO.out.lt);have hWe:=hW.out.up hbe;have how:=zaw.keep ze (show zaD NX _ (.slice (some ⟨g,0,none⟩) ps.length cap1) ps from ⟨hown.out,fun _ _=>trivial⟩) (zc.of_below hbe _);have hOW0:=hOW.out;have hfin:=Hd (show zxZ w O R NX g c ps.length cap1 ps (we.setRow O #[.int .u8 c,.slice (some ⟨g,0,none⟩) ps.length cap1]) from ⟨Below.setRow_ hWe.below (by have:=kR.out.lt; omega) _,Blk.setRow_far (kR.out.keep hWe.keeps kR.out.lt) (by have:=kR.out.lt; omega) _,kOe.out.setRow_ _,hgO.out,by have:=kR.out.lt; omega,zaw.far (fun _ _ _ _ _ _=>trivial) how fun b hb=>(zfw (P:=fun b=>b ≠ O) we O #[.int .u8 c,.slice (some ⟨g,0,none⟩) ps.length cap1] (fun h=>h rfl)).block b (how.block_lt hb).2 (fun e=>hgO.out (by rw [<- e]; exact hb.symm))⟩);refine wpList_store_rowTo rfl 39 _ _ rfl rfl O #[.int .u8 c,.slice (some ⟨g,0,none⟩) ps.length cap1] rfl rfl 39 _ kOe.out (by kernel_rfl) rfl (by kernel_rfl) ?_;clear hbe hWe kOe how hOW0;go_wp2;go_meet
    case rel=>exact ⟨_,_,_,_,rfl,hfin⟩
  ·refine ⟨_,rfl,rfl,zy (ops:=#[]) (K:=fun a' w'=>(∀ w9,Below w'.heap.size w' w9 -> (fun wc=>zc (fun b=>b < W.heap.size) W wc) w9) /\ mkG Tryz.prog _ _ (fun wc=>zc (fun b=>b < W.heap.size) W wc) _ 3 [2,5,6] a' w') rfl fun Q' hQ=>?_⟩
   simp only [gX,gQ,gZ];have kO:=Hd (Blk.new wa 39 #[.int .u8 0,.slice none 0 0]);have hW:=Hd ((hW.out.up hba).up ((Below.refl wa.heap.size wa).alloc (lQ _) (.cells #[.int .u8 0,.slice none 0 0] 39)));have hOW:=Hd (Nat.le_trans H7.out hba.size);have H7:=Hd (show W.heap.size <= (wa.alloc (.cells #[.int .u8 0,.slice none 0 0] 39)).heap.size by have:=hOW.out; simp; omega);go_wp2;refine hQ _ _ rfl ⟨fun w4 h4=>(hW.out.up h4).keeps,?_⟩;clear hQ;clear hba;generalize wa.alloc (.cells #[.int .u8 0,.slice none 0 0] 39) = wx at *;generalize wa.heap.size = O at *;refine zB [2] (by kernel_rfl) fun j hj wa hba=>?_;obtain rfl:=mS.1 hj;refine ⟨_,rfl,rfl,zy (ops:=#[]) (K:=fun a' w'=>(∀ w9,Below w'.heap.size w' w9 -> (fun wc=>zc (fun b=>b < W.heap.size) W wc) w9) /\ mkG Tryz.prog _ _ (fun wc=>zc (fun b=>b < W.heap.size) W wc) _ 2 [5,6] a' w') rfl fun Q' hQ=>?_⟩;simp only [gX,gQ,gZ];have hown:=Hd (zdP (w:=wa) (E:=50) (k:=2));have hW:=Hd ((hW.out.up hba).up ((Below.refl wa.heap.size wa).alloc (lQ _) (.cells #[] 50)));have hNX : W.heap.size <= wa.heap.size:=Nat.le_trans H7.out hba.size;have hNXs:=Hd (show wa.heap.size + 1 <= (wa.alloc (.cells #[] 50)).heap.size by simp);have hO:=Hd (show O < wa.heap.size from Nat.lt_of_lt_of_le kO.out.lt hba.size);have kO:=Hd ((kO.out.below hba kO.out.lt).alloc (.cells #[] 50));go_wp2;refine hQ _ _ rfl ⟨fun w4 h4=>(hW.out.up h4).keeps,?_⟩;clear hQ;have H7:=Hd (show W.heap.size <= (wa.alloc (.cells #[] 50)).heap.size by have:=hNXs.out; omega);clear hba;generalize wa.alloc (.cells #[] 50) = wx at *;generalize wa.heap.size = NX at *;refine zB [5] (by kernel_rfl) fun j hj wa hba=>?_;obtain rfl:=mS.1 hj;refine ⟨_,rfl,rfl,zy (ops:=#[]) (K:=fun a' w'=>(∀ w9,Below w'.heap.size w' w9 -> (fun wc=>zc (fun b=>b < W.heap.size) W wc) w9) /\ mkG Tryz.prog _ _ (fun wc=>zc (fun b=>b < W.heap.size) W wc) _ 1 [6] a' w') rfl fun Q' hQ=>?_⟩;simp only [gX,gQ,gZ];have hW:=Hd (hW.out.up hba);have hown:=Hd (zls hown.out hba);have H7:=Hd (Nat.le_trans H7.out hba.size);have hNXs:=Hd (Nat.le_trans hNXs.out hba.size);have kO:=Hd (kO.out.below hba kO.out.lt);have hOl:=Hd kO.out.lt;have hA:=Hd (fun (ops : Array Oper) (rest : List Oper) (o : Oper) (a : Act) (Q : Exit -> Act -> World -> Prop) hgd ho' hs hx h=>wpList_append_lies (P:=Tryz.prog) (ops:=ops) (rest:=rest) (o:=o) (a:=a) (Q:=Q) wa hgd (.tmp 11) (.tmp 13) 37 ho' NX 50 i0 (.agg #[.int .u8 0,.string ⟨#[]⟩]) 2 24 Tryz.underlying37 hi0 hz0 hz1 hz2 rfl (by decide) (.slice (some ⟨NX,0,none⟩) 0 0) 0 [] hs hown.out ⟨rb,ro,none⟩ ps.length cap (ps.flatMap zak) hx hfl.out (zdt hsrc.out hrb hW.out.keeps hrb) hone.out h0 (by unfold maxLen; omega) (by omega) (Nat.le_of_succ_le hNXs.out) _ rfl h);have hwaH:=Hd H7.out;go_wp2_with (at_builtin; refine hA.out _ _ _ _ _ rfl rfl rfl rfl ?_; intro g cap1 wC hownC hgrC hatC hltC);rw [Nat.zero_add] at hownC;have kO:=Hd (kO.out.grown hgrC (fun e=>by have e2 : O = NX:=Option.some.inj e; have:=hO.out; omega))
   have hgO:=Hd (show some O ≠ some g from fun e=>by
    have e2 : O = g:=Option.some.inj e;rcases hatC with h | h
    ·have e3 : NX = g:=Option.some.inj h
     have:=hO.out;omega
    ·have:=hOl.out
     omega)
   have hW:=Hd (hW.out.grown hNX hwW hgrC);have hown:=Hd hownC;have H7:=Hd (Nat.le_trans H7.out hgrC.size);have hNXs:=Hd (Nat.le_trans hNXs.out hgrC.size);have hgl:=Hd hltC;refine hQ _ _ rfl ⟨fun w4 h4=>(hW.out.up h4).keeps,?_⟩;clear hQ;clear hA hownC hgrC hatC hltC hba hwaH;refine zag [6] (.agg #[.int .u8 c,.slice (some ⟨g,0,none⟩) ps.length cap1]) (by kernel_rfl) rfl (i:=6) rfl rfl (fun _ _=>by simp [go_sem,execOp]) (fun w2 h2=>(hW.out.up h2).keeps) ?_;simp only [gX,gQ,gZ,Act.put,sX,sS,sZ];refine zaM rfl ?_;intro we hbe;have kOe:=Hd (kO.out.below hbe kO.out.lt);have hWe:=hW.out.up hbe;have how:=zaw.keep ze (show zaD NX _ (.slice (some ⟨g,0,none⟩) ps.length cap1) ps from ⟨hown.out,fun _ _=>trivial⟩) (zc.of_below hbe _);have hOW0:=hOW.out;have hfin:=Hd (show zxZ w O R NX g c ps.length cap1 ps (we.setRow O #[.int .u8 c,.slice (some ⟨g,0,none⟩) ps.length cap1]) from ⟨Below.setRow_ hWe.below (by have:=kR.out.lt; omega) _,Blk.setRow_far (kR.out.keep hWe.keeps kR.out.lt) (by have:=kR.out.lt; omega) _,kOe.out.setRow_ _,hgO.out,by have:=kR.out.lt; omega,zaw.far (fun _ _ _ _ _ _=>trivial) how fun b hb=>(zfw (P:=fun b=>b ≠ O) we O #[.int .u8 c,.slice (some ⟨g,0,none⟩) ps.length cap1] (fun h=>h rfl)).block b (how.block_lt hb).2 (fun e=>hgO.out (by rw [<- e]; exact hb.symm))⟩);refine wpList_store_rowTo rfl 39 _ _ rfl rfl O #[.int .u8 c,.slice (some ⟨g,0,none⟩) ps.length cap1] rfl rfl 39 _ kOe.out (by kernel_rfl) rfl (by kernel_rfl) ?_;clear hbe hWe kOe how hOW0;go_wp2;go_meet
   case rel=>exact ⟨_,_,_,_,rfl,hfin⟩
 case rest=>
  obtain ⟨O,NX,g,cap1,rfl,hS⟩:=hcut;rename World=>w2;have hS0:=hS;have kO:=hS.out.out;have r1:=kO.cell 1;have lO:=kO.lt;simp at r1;clear kO hW kR kG2 hsrc;go_wp2;clear r1 lO
  go_loopw [19] (fun iv wr=>∃ k : Nat,k <= ps.length /\ iv = .int .i64 k /\ Hid (zxZ w O R NX g c ps.length cap1 (zdx kd s ps k) wr)) (fun iv _=>ps.length - (intOf iv).toNat)
  case atStart=>exact ⟨0,by omega,rfl,Hd (by rw [zrs]; exact hS0.out)⟩
  case round=>
   obtain ⟨k,hk,rfl,hR⟩:=hrel;rename World=>wr;have n0 : (0 : Int) <= (k : Int):=by omega
   have kO:=Hd hR.out.out;have r1:=kO.out.cell 1;have lO:=kO.out.lt;simp at r1;by_cases hlt : k < ps.length
   ·have n1 : (k : Int) < (ps.length : Int):=by omega
    have hwl:=Hd (ztN kd s ps k);have hkw : k < (zdx kd s ps k).length:=by rw [hwl.out]; exact hlt
    obtain ⟨lg,c0,c1,f1⟩:=zqH hR.out.own k hkw;have hat:=Hd (zwn kd s ps k hlt hkw);have hsu:=Hd (zrr kd s ps k hlt);have hself:=Hd (set_self (zdx kd s ps k) k hkw);have hown:=Hd hR.out.own;have hkw':=Hd hkw;rw [hat.out] at c0 c1;generalize ps.getD k zu.zero = q at *;obtain ⟨qk,qt⟩:=q;simp only at c0 c1;by_cases e : qk = kd
    ·subst e
     have e1 : (qk == qk) = true:=by simp
     have hst : Hid (zjU qk s ⟨qk,qt⟩ = ⟨qk,s⟩):=Hd (by unfold zjU; rw [if_pos rfl])
     have hfin:=Hd (show zxZ w O R NX g c ps.length cap1 (zdx qk s ps (k + 1)) (wr.setCell ⟨g,k * 2 + 1,none⟩ (.string s)) from by
      have hgl:=hown.out.block_lt (g:=g) rfl;refine ⟨hR.out.below.setCell (by have:=hR.out.low; simp; omega) _,hR.out.res.far (by have:=hR.out.low; simp; omega) _,hR.out.out.far (fun h=>hR.out.apart (by rw [h])) _,hR.out.apart,hR.out.low,?_⟩;rw [hsu.out,hst.out]
      exact zaw.setOne (E:=50) (k:=2) (cells:=zak) (I:=zdp) (v:=.slice (some ⟨g,0,none⟩) ps.length cap1) (ps:=zdx qk s ps k) ze (fun _=>rfl) hown.out rfl k 1 hkw'.out (by decide) (.string s) ⟨qk,s⟩ (by rw [hat.out]; rfl) trivial)
     clear hwl hkw hat hsu hself hown hkw';go_wp2;go_roundw
     case rel=>exact ⟨k + 1,by omega,by go_num,hfin⟩
     case measure=>simp [intOf]; omega
    ·have e1 : (qk == kd) = false:=by simpa using e
     have hst : Hid (zjU kd s ⟨qk,qt⟩ = ⟨qk,qt⟩):=Hd (by unfold zjU; rw [if_neg e])
     have hfin:=Hd (show zxZ w O R NX g c ps.length cap1 (zdx kd s ps (k + 1)) wr from by
      rw [hsu.out,hst.out,<- hat.out,hself.out]
      exact hR.out)
     clear e hwl hkw hat hsu hself hown hkw';go_wp2;go_roundw
     case rel=>exact ⟨k + 1,by omega,by go_num,hfin⟩
     case measure=>simp [intOf]; omega
   ·obtain rfl : k = ps.length:=by omega
    have hR2:=hR;rw [ztM] at hR2;have q0:=kO.out.cell 0;have kR:=Hd hR2.out.res;have lR:=kR.out.lt;have t0:=kR.out.cell 0;have t1:=kR.out.cell 1;have fR0:=kR.out.frozen 0;have fR1:=kR.out.frozen 1;simp at q0 t0 t1;go_wp2;refine bodyPost_ret (results_cell_row (P:=Tryz.prog) Tryz.results17 _ _ _ _ _ _ _ rfl ((kR.out.set_ 0 (.int .u8 c)).set_ 1 (.slice (some ⟨g,0,none⟩) ps.length cap1)) Tryz.underlying39 rfl (by kernel_rfl)) rfl ?_;have hlow:=hR2.out.low
    have hown2 : zaD NX ((wr.setCell ⟨R,0,none⟩ (.int .u8 c)).setCell ⟨R,1,none⟩ (.slice (some ⟨g,0,none⟩) ps.length cap1)) (.slice (some ⟨g,0,none⟩) ps.length cap1) (zdW kd s ps):=
     zaw.keep ze (zaw.keep ze hR2.out.own (zc.set_ _ _ _ (by simp; omega))) (zc.set_ _ _ _ (by simp; omega))
    have hbe:=(hR2.out.below.setCell (p:=⟨R,0,none⟩) (by simp; omega) (.int .u8 c)).setCell (p:=⟨R,1,none⟩) (by simp; omega) (.slice (some ⟨g,0,none⟩) ps.length cap1);exact ⟨_,rfl,zaw.base ze hown2 (by omega),hbe⟩
end
section
open Go.RowKit Go.Maps
def zwx (v : Nat -> ByteArray) (j : Nat) (s : ByteArray) (k : Nat) : ByteArray:=if k = j then s else v k
theorem zpx (v : Nat -> ByteArray) (j : Nat) (s : ByteArray) : zwx v j s j = s:=if_pos rfl
theorem znQ (v : Nat -> ByteArray) {j k : Nat} (s : ByteArray) (h : k ≠ j) : zwx v j s k = v k:=if_neg h
theorem zwo (v : Nat -> ByteArray) (j : Nat) (s : ByteArray) (hv : (v j).size ≠ 0) (hs : s.size ≠ 0) : ∀ k,(zG v k).map (zjU (j : Int) s) = zG (zwx v j s) k
 | 0=>rfl
 | k + 1=>by
  have ih:=zwo v j s hv hs k;rw [zG,zG,List.map_append,ih];congr 1;by_cases hk : k + 1 = j
  ·subst hk
   rw [zpx,if_neg hv,if_neg hs];simp [zjU]
  ·rw [znQ v s hk]
   split
   ·rfl
   ·have : ¬ ((k + 1 : Nat) : Int) = (j : Int):=by omega
    rw [List.map_cons,List.map_nil];unfold zjU;rw [if_neg this]
theorem ztO (v : Nat -> ByteArray) (j : Nat) (s : ByteArray) (hv : (v j).size ≠ 0) (hs : s.size ≠ 0) : zdW (j : Int) s (zm v) = zm (zwx v j s):=zwo v j s hv hs 10
theorem zyX (v : Nat -> ByteArray) (j : Nat) (s : ByteArray) (hv : (v j).size ≠ 0) (hs : s.size ≠ 0) (k : Nat) : zgz (zwx v j s) (k : Int) = zgz v (k : Int):=by
 unfold zgz;rw [Int.toNat_natCast];by_cases hk : k = j
 ·subst hk
  rw [zpx,decide_eq_true hs,decide_eq_true hv]
 ·rw [znQ v s hk]
theorem zwl {c : Int} {v : Nat -> ByteArray} {j : Nat} {s : ByteArray} (h : zR c (zm v) = true) (hv : (v j).size ≠ 0) (hs : s.size ≠ 0) (hp : zcW c (j : Int) s = true) : zR c (zm (zwx v j s)) = true:=by
 obtain ⟨h1,h2⟩:=(zeP _ _).1 h;refine (zeP _ _).2 ⟨fun k k1 k2 hz=>?_,?_⟩
 ·by_cases hk : k = j
  ·subst hk
   rw [zpx]; exact hp
  ·rw [znQ v s hk] at hz ⊢
   exact h1 k k1 k2 hz
 ·rw [zor c _ (zgz v) fun k _ _=>zyX v j s hv hs k]
  exact h2
theorem zwm {v : Nat -> ByteArray} {j : Nat} {s : ByteArray} (h : zH (zm v)) (h1 : s.size <= 1000) (h2 : zkv s) : zH (zm (zwx v j s)):=by
 intro q hq;obtain ⟨k,k1,k2,hz,rfl⟩:=(zcO _ 10 q).1 hq;by_cases hk : k = j
 ·subst hk
  simp only [zpx];exact ⟨h1,h2,by omega,by omega⟩
 ·simp only [znQ v s hk] at hz ⊢
  exact h _ ((zcO v 10 _).2 ⟨k,k1,k2,hz,rfl⟩)
theorem ziw {v' v : Nat -> ByteArray} {r : zhO} : ∀ {l : List zhO},r ∈ l -> zpk v' v r = none -> zmP v' v l = none
 | [],h,_=>by cases h
 | a :: t,h,hn=>by
  rw [zmP];rcases List.mem_cons.1 h with rfl | h
  ·rw [hn]; rfl
  ·rw [ziw h hn]
   cases zpk v' v a <;> rfl
theorem zhc {v : Nat -> ByteArray} {r : zhO} {s : ByteArray} (hs : s.size ≠ 0) (hne : s ≠ v r.kind) (he : r.edits = noP) : zpk (zwx v r.kind s) v r = none:=by
 unfold zpk;rw [zpx,if_neg hs,if_neg hne,he];rfl
theorem zuc (x : Option Int) : zww x none = none:=by cases x <;> rfl
theorem zqF (f : zw) (c : Int) (p : zh) (j : Nat) (s : ByteArray) (hj : j = 1 \/ j = 2 \/ j = 6 \/ j = 7) (hs : s.size ≠ 0) (hne : s ≠ zX f p j) : zaU f c (zm (zwx (zX f p) j s)) p = none:=by
 refine znx (f:=zO) ?_;rw [zqy]
 split
 ·unfold zrR
  have hn : zmP (zwx (zX f p) j s) (zX f p) (zQ f p) = none:=by
   rcases hj with rfl | rfl | rfl | rfl
   ·exact ziw (r:=⟨1,89,-1,91,zao p.number,noP⟩) (by simp [zQ]) (zhc (r:=⟨1,89,-1,91,zao p.number,noP⟩) hs hne rfl)
   ·exact ziw (r:=⟨2,92,-1,91,p.letter,noP⟩) (by simp [zQ]) (zhc (r:=⟨2,92,-1,91,p.letter,noP⟩) hs hne rfl)
   ·exact ziw (r:=⟨6,93,5,91,p.unit,noP⟩) (by simp [zQ]) (zhc (r:=⟨6,93,5,91,p.unit,noP⟩) hs hne rfl)
   ·exact ziw (r:=⟨7,94,-1,91,zao p.box,noP⟩) (by simp [zQ]) (zhc (r:=⟨7,94,-1,91,zao p.box,noP⟩) hs hne rfl)
  rw [hn,zuc]
 ·rfl
theorem znA (f : zw) (c : Int) (v : Nat -> ByteArray) (p : zh) (hc : (zas f p.town).1.country ≠ c) : zaU f c (zm v) p = none:=by
 refine znx (f:=zO) ?_;rw [zqy,if_neg hc]
theorem zwB (x : zi) (p : zh) (hp : p ∈ (zb x).points) (c : Int) (ps : List zu) (h : zaU (zb x) c ps p = none) : ∀ m ∈ ziF (zb x) c ps,m.point ≠ p.id:=by
 intro m hm e;unfold ziF at hm;have hm2:=(zfB leM _).mem_iff.1 hm;unfold zcq at hm2;obtain ⟨q,hq,hq2⟩:=List.mem_filterMap.1 hm2;unfold zhg at hq2;obtain ⟨ns,h1,h2⟩:=map_some hq2;subst h2;have hqp : q = p:=zfR (zce x) hq hp (fun h=>h e) (fun h=>h e.symm);subst hqp;rw [h] at h1;cases h1
theorem zkA (l : List UInt8) (i : Nat) (h : i < l.length) : zU ⟨l.toArray⟩ i = (l[i]'h).toNat:=by
 have hs : i < (⟨l.toArray⟩ : ByteArray).size:=by show i < l.toArray.size; simpa using h
 unfold zU;rw [dif_pos hs];rfl
theorem zie (l : List UInt8) : (⟨l.toArray⟩ : ByteArray).size = l.length:=by show l.toArray.size = _; simp
theorem zeK {d : Nat} (h : d < 10) : (UInt8.ofNat (48 + d)).toNat = 48 + d:=by
 rw [UInt8.toNat_ofNat'];omega
theorem zoe (u : Nat) : ∀ b ∈ Lib.decDigits u,48 <= b.toNat /\ b.toNat <= 57:=by
 induction u using Nat.strongRecOn with
 | _ u ih=>
  intro b hb;rw [Lib.decDigits] at hb
  split at hb
  ·rename_i h
   rw [mS.1 hb,zeK h];omega
  ·rename_i h
   rcases List.mem_append.1 hb with hb | hb
   ·exact ih (u / 10) (by omega) b hb
   ·rw [mS.1 hb,zeK (by omega)]
    omega
theorem zyp (u : Nat) : (Lib.decDigits u).foldl (fun n b=>n * 10 + (b.toNat - 48)) 0 = u:=by
 induction u using Nat.strongRecOn with
 | _ u ih=>
  rw [Lib.decDigits]
  split
  ·rename_i h
   rw [List.foldl_cons,List.foldl_nil,zeK h];omega
  ·rename_i h
   rw [List.foldl_append,ih (u / 10) (by omega),List.foldl_cons,List.foldl_nil,zeK (by omega)];omega
theorem zpZ : ∀ (k u : Nat),u < 10 ^ (k + 1) -> (Lib.decDigits u).length <= k + 1
 | 0,u,h=>by
  rw [Lib.decDigits,dif_pos (by simpa using h)];simp
 | k + 1,u,h=>by
  rw [Lib.decDigits]
  split
  ·simp
  ·have ih:=zpZ k (u / 10) (by rw [Nat.pow_succ] at h; omega)
   rw [List.length_append];simp only [List.length_singleton];omega
theorem zne (u : Nat) : 0 < (Lib.decDigits u).length:=by
 rw [Lib.decDigits]
 split
 ·simp
 ·rw [List.length_append]; simp
theorem zwJ (u : Nat) : 1 <= u -> ((Lib.decDigits u)[0]'(zne u)).toNat ≠ 48:=by
 induction u using Nat.strongRecOn with
 | _ u ih=>
  intro h1;by_cases h : u < 10
  ·have e : Lib.decDigits u = [UInt8.ofNat (48 + u)]:=by rw [Lib.decDigits,dif_pos h]
   simp only [e,gZ];rw [zeK h];omega
  ·have e : Lib.decDigits u = Lib.decDigits (u / 10) ++ [UInt8.ofNat (48 + u % 10)]:=by rw [Lib.decDigits,dif_neg h]
   have hp:=zne (u / 10);have i1:=ih (u / 10) (by omega) (by omega);simp only [e];rw [List.getElem_append_left hp];exact i1
def zef (u : Nat) : ByteArray:=⟨(Lib.itoa (u : Int)).toArray⟩
theorem ziU (u : Nat) : zef u = ⟨(Lib.decDigits u).toArray⟩:=by unfold zef; rw [Lib.itoa_nonneg]
theorem zmr {u : Nat} (h : 1 <= u) : zao (u : Nat) = zef u:=by
 unfold zao;rw [if_neg (by omega)];rfl
theorem zvu (u : Nat) : zof (zef u) = u:=by
 rw [ziU];show (Lib.decDigits u).toArray.toList.foldl _ 0 = u;simpa using zyp u
theorem zvt {a b : Nat} (h : zef a = zef b) : a = b:=by rw [<- zvu a,<- zvu b,h]
theorem zgW (u : Nat) (h : u < 1000000) : 0 < (zef u).size /\ (zef u).size <= 6:=by
 rw [ziU,zie];exact ⟨zne u,zpZ 5 u (by simpa using h)⟩
theorem zrU (u i : Nat) (h : i < (zef u).size) : 48 <= zU (zef u) i /\ zU (zef u) i <= 57:=by
 rw [ziU] at h ⊢;rw [zie] at h;rw [zkA _ i h];exact zoe u _ (List.getElem_mem h)
theorem zvs (u : Nat) (h : 1 <= u) : zU (zef u) 0 ≠ 48:=by
 rw [ziU,zkA _ 0 (zne u)];exact zwJ u h
theorem zoN (u : Nat) : zfS (zef u) = true:=by
 unfold zfS;rw [List.all_eq_true];intro i hi;have h:=zrU u i (List.mem_range.1 hi);unfold zrW;simp;omega
theorem zth (u : Nat) (h1 : 1 <= u) (h : u < 1000000) : zct (zef u) = true:=by
 have h2:=zgW u h;unfold zct;rw [decide_eq_true h2.1,decide_eq_true h2.2,decide_eq_true (zvs u h1),Bool.true_and,Bool.true_and,Bool.true_and];refine zgr fun i hi=>?_;have h:=zrU u i hi;unfold zdZ;simp;omega
structure ztZ (c : Int) (j : Nat) (s : ByteArray) : Prop where
 some_ : s.size ≠ 0
 size : s.size <= 1000
 plain : zkv s
 part : zcW c (j : Int) s = true
theorem zmD (c : Int) (u : Nat) (h1 : 1 <= u) (h : u < 1000000) : ztZ c 1 (zef u) /\ ztZ c 7 (zef u):=by
 have h2:=zgW u h;have h3 : zaF (zef u) 0 = true:=zth u h1 h
 exact ⟨⟨by omega,by omega,zgY (zoN u),by unfold zcW; rw [if_pos (by rfl)]; exact h3⟩,⟨by omega,by omega,zgY (zoN u),by
  unfold zcW;rw [if_neg (by decide),if_neg (by decide),if_neg (by decide),if_neg (by decide),if_neg (by decide),if_neg (by decide),if_pos (by rfl)]
  exact h3⟩⟩
theorem zqv : ∀ d : Fin 20,(zbW ⟨#[UInt8.ofNat (67 + d.val)]⟩ && (zfS ⟨#[UInt8.ofNat (67 + d.val)]⟩ && decide ((⟨#[UInt8.ofNat (67 + d.val)]⟩ : ByteArray) ≠ ⟨#[66]⟩))) = true:=by decide +kernel
theorem ztg (c : Int) (d : Nat) (h : d < 20) : ztZ c 2 ⟨#[UInt8.ofNat (67 + d)]⟩ /\ (⟨#[UInt8.ofNat (67 + d)]⟩ : ByteArray) ≠ ⟨#[66]⟩:=by
 have ht:=zqv ⟨d,h⟩;rw [Bool.and_eq_true,Bool.and_eq_true] at ht;refine ⟨⟨by show 1 ≠ 0; decide,by show 1 <= 1000; decide,zgY ht.2.1,?_⟩,of_decide_eq_true ht.2.2⟩;unfold zcW;rw [if_neg (by decide),if_pos (by rfl)];exact ht.1
theorem zxT (u i : Nat) (h : i < ((⟨#[85]⟩ : ByteArray) ++ zef u).size) : zU ((⟨#[85]⟩ : ByteArray) ++ zef u) i = 85 \/ (48 <= zU ((⟨#[85]⟩ : ByteArray) ++ zef u) i /\ zU ((⟨#[85]⟩ : ByteArray) ++ zef u) i <= 57):=by
 have e : (⟨#[85]⟩ : ByteArray) ++ zef u = ⟨(85 :: Lib.decDigits u).toArray⟩:=by
  rw [ziU]
  apply ByteArray.ext
  rw [ByteArray.data_append];simp
 rw [e] at h ⊢;rw [zie] at h;rw [zkA _ i h]
 cases i with
 | zero=>exact .inl rfl
 | succ i=>
  right;rw [gQ];exact zoe u _ (List.getElem_mem _)
theorem zxi (c : Int) (u : Nat) (h : u < 1000) : ztZ c 6 (⟨#[85]⟩ ++ zef u) /\ (⟨#[85]⟩ ++ zef u : ByteArray) ≠ ⟨#[50]⟩:=by
 have hl : (zef u).size <= 3:=by
  rw [ziU,zie];exact zpZ 2 u (by simpa using h)
 have h0:=(zgW u (by omega)).1;have hsz : ((⟨#[85]⟩ : ByteArray) ++ zef u).size = 1 + (zef u).size:=by rw [ByteArray.size_append]; rfl
 refine ⟨⟨by omega,by omega,zgY ?_,?_⟩,fun e=>?_⟩
 ·unfold zfS
  rw [List.all_eq_true];intro i hi;have hb:=zxT u i (List.mem_range.1 hi);unfold zrW;simp;omega
 ·unfold zcW
  rw [if_neg (by decide),if_neg (by decide),if_neg (by decide),if_neg (by decide),if_neg (by decide),if_pos (by rfl)];show zjQ _ = true;unfold zjQ;rw [decide_eq_true (by omega),decide_eq_true (by omega),Bool.true_and,Bool.true_and];refine zgr fun i hi=>?_;have hb:=zxT u i hi;unfold zgA zbI zdZ;simp;omega
 ·have h2:=congrArg ByteArray.size e
  rw [hsz] at h2;have h3 : (⟨#[50]⟩ : ByteArray).size = 1:=rfl;omega
theorem zoX (x : zi) (t : Nat) (p : zh) (h : BasePt x t p) : (p.letter = ⟨#[]⟩ \/ p.letter = ⟨#[66]⟩) /\ (p.unit = ⟨#[]⟩ \/ p.unit = ⟨#[50]⟩):=by
 cases h with
 | street i k num seq letter unit hk hn hl hu hs=>exact ⟨hl.imp id fun h=>h.1,hu.imp id fun h=>h.1⟩
 | box i t bx seq ht hb hs=>exact ⟨.inl rfl,.inl rfl⟩
structure zjM (x : zi) (p : zh) (c : Int) (ps : List zu) (k : Nat) : Prop where
 small : zH ps
 right : k ≠ 4 -> zR c ps = true
 none_ : zaU (zb x) c ps p = none
theorem zgV (x : zi) (p : zh) (hp : p ∈ (zb x).points) (k j : Nat) (s : ByteArray) (hj : j = 1 \/ j = 2 \/ j = 6 \/ j = 7) (hv : (zX (zb x) p j).size ≠ 0) (hn : ztZ (zcT (zb x) p) j s) (hne : s ≠ zX (zb x) p j) :
  zjM x p (zcT (zb x) p) (zdW (j : Int) s (zm (zX (zb x) p))) k:=by
 have hr:=zeL x p hp;rw [ztO _ j s hv hn.some_];exact ⟨zwm hr.2 hn.size hn.plain,fun _=>zwl hr.1 hv hn.some_ hn.part,zqF _ _ p j s hj hn.some_ hne⟩
theorem zoL (x : zi) (p : zh) (hp : p ∈ (zb x).points) (k u : Nat) (hu : u < 65536) (h0 : p.number ≠ 0) (hne : p.number ≠ 1 + (u : Int)) : zjM x p (zcT (zb x) p) (zdW 1 (zef (1 + u)) (zm (zX (zb x) p))) k:=by
 obtain ⟨t,i,-,-,hb⟩:=zcx x p hp;obtain ⟨a,b,ha,hb',e1,e2⟩:=zgZ x t p hb
 have hv : zX (zb x) p 1 = zef a:=by
  show zao p.number = _;rw [e1,zmr (by omega)]
 refine zgV x p hp k 1 (zef (1 + u)) (.inl rfl) ?_ (zmD _ _ (by omega) (by omega)).1 ?_
 ·rw [hv]; have:=zgW a (by omega); omega
 ·rw [hv]; exact fun h=>by have:=zvt h; omega
theorem zvo (x : zi) (p : zh) (hp : p ∈ (zb x).points) (k u : Nat) (hu : u < 65536) (h0 : p.box ≠ 0) (hne : p.box ≠ 1 + (u : Int)) : zjM x p (zcT (zb x) p) (zdW 7 (zef (1 + u)) (zm (zX (zb x) p))) k:=by
 obtain ⟨t,i,-,-,hb⟩:=zcx x p hp;obtain ⟨a,b,ha,hb',e1,e2⟩:=zgZ x t p hb
 have hv : zX (zb x) p 7 = zef b:=by
  show zao p.box = _;rw [e2,zmr (by omega)]
 refine zgV x p hp k 7 (zef (1 + u)) (.inr (.inr (.inr rfl))) ?_ (zmD _ _ (by omega) (by omega)).2 ?_
 ·rw [hv]; have:=zgW b (by omega); omega
 ·rw [hv]; exact fun h=>by have:=zvt h; omega
theorem zoK (x : zi) (p : zh) (hp : p ∈ (zb x).points) (k d : Nat) (hd : d < 20) (h0 : p.letter ≠ ⟨#[]⟩) : zjM x p (zcT (zb x) p) (zdW 2 ⟨#[UInt8.ofNat (67 + d)]⟩ (zm (zX (zb x) p))) k:=by
 obtain ⟨t,i,-,-,hb⟩:=zcx x p hp;have hl : p.letter = ⟨#[66]⟩:=(zoX x t p hb).1.resolve_left h0;have hv : zX (zb x) p 2 = ⟨#[66]⟩:=hl;have hn:=ztg (zcT (zb x) p) d hd;refine zgV x p hp k 2 _ (.inr (.inl rfl)) ?_ hn.1 ?_
 ·rw [hv]; show 1 ≠ 0; decide
 ·rw [hv]; exact hn.2
theorem ztf (x : zi) (p : zh) (hp : p ∈ (zb x).points) (k u : Nat) (hu : u < 1000) (h0 : p.unit ≠ ⟨#[]⟩) : zjM x p (zcT (zb x) p) (zdW 6 (⟨#[85]⟩ ++ zef u) (zm (zX (zb x) p))) k:=by
 obtain ⟨t,i,-,-,hb⟩:=zcx x p hp;have hl : p.unit = ⟨#[50]⟩:=(zoX x t p hb).2.resolve_left h0;have hv : zX (zb x) p 6 = ⟨#[50]⟩:=hl;have hn:=zxi (zcT (zb x) p) u hu;refine zgV x p hp k 6 _ (.inr (.inr (.inl rfl))) ?_ hn.1 ?_
 ·rw [hv]; show 1 ≠ 0; decide
 ·rw [hv]; exact hn.2
theorem zzG (x : zi) (p : zh) (hp : p ∈ (zb x).points) : 1 <= zcT (zb x) p /\ zcT (zb x) p <= 3:=by
 obtain ⟨t,i,-,-,hb⟩:=zcx x p hp;rw [zqG x t p hb];have:=zkp t;omega
theorem zny (x : zi) (p : zh) (hp : p ∈ (zb x).points) : zjM x p (1 + zcT (zb x) p % 3) (zm (zX (zb x) p)) 4:=by
 have hc:=zzG x p hp;refine ⟨(zeL x p hp).2,fun h=>absurd rfl h,znA _ _ _ p ?_⟩;show zcT (zb x) p ≠ 1 + zcT (zb x) p % 3;omega
end
end Go.Proofs.YtggimnndflkjkaaGreatDoor
