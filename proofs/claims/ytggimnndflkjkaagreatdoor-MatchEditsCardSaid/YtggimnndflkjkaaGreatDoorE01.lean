import Derived.Test.YtggimnndflkjkaaGreatDoorC01
import Derived.Test.YtggimnndflkjkaaGreatDoorC27
import Derived.Test.YtggimnndflkjkaaGreatDoorC41
import Derived.Test.YtggimnndflkjkaaGreatDoorC43
import Derived.Test.YtggimnndflkjkaaGreatDoorC46
import Derived.Test.YtggimnndflkjkaaGreatDoorC47
import Derived.Deep.Upon
import Derived.Deep.DeepCutAuto
import Derived.Lib.ItoaMem
set_option linter.all false
set_option maxRecDepth 100000
set_option maxHeartbeats 0
namespace Go.Proofs.YtggimnndflkjkaaGreatDoor
section
open Go.RowKit Go.Maps
theorem zdP {w : World} {E : TypeId} {k : Nat} : (w.alloc (.cells #[] E)).ownsRow w.heap.size E k (.slice (some ⟨w.heap.size,0,none⟩) 0 0) 0 []:=
 ⟨by simp,.inr ⟨w.heap.size,0,#[],rfl,lQ _,heap_alloc_new _ _,lQ _,by decide,by simp,by simp⟩⟩
theorem zgQ {α : Type} {f : α -> List Value} (hf : ∀ a,∀ v ∈ f a,v.oneCell' = true) (l : List α) : ∀ v ∈ l.flatMap f,v.oneCell' = true:=fun v hv=>by
 obtain ⟨a,-,h⟩:=List.mem_flatMap.1 hv;exact hf a v h
structure Way (w6 w7 w : World) : Prop where
 below : Below w6.heap.size w6 w
 keeps : zc (fun b=>b < w7.heap.size) w7 w
theorem Way.up {w6 w7 w w' : World} (h : Way w6 w7 w) (hb : Below w.heap.size w w') : Way w6 w7 w':=⟨h.below.trans (hb.mono h.below.size),h.keeps.trans (zc.of_below hb _)⟩
theorem Way.grown {w6 w7 w w' : World} (h : Way w6 w7 w) {N : Nat} (hN : w7.heap.size <= N) (h67 : w6.heap.size <= w7.heap.size) (hg : w.grownBy w' (some N)) : Way w6 w7 w':=
 ⟨h.below.grown hg h.below.size (fun g e=>by have e2 : N = g:=Option.some.inj e; omega),h.keeps.trans (zc.of_grown hg fun b hb e=>by have e2 : b = N:=Option.some.inj e; omega)⟩
theorem zdt {P : Nat -> Prop} {w w' : World} {b o : Nat} {news : List Value} (h : ∀ j u,news[j]? = some u -> w.cell? ((⟨b,o,none⟩ : Addr).add j) = some u) (hb : b < w.heap.size) (hk : zc P w w') (hp : P b) : ∀ j u,news[j]? = some u -> w'.cell? ((⟨b,o,none⟩ : Addr).add j) = some u:=fun j u hu=>by
 have h1:=h j u hu;rw [Go.WideShapes.add_plain] at h1 ⊢;rw [<- h1];exact hk.cell hb hp
theorem zls {w1 w2 : World} {base : Nat} {e : TypeId} {k : Nat} {v : Value} {n : Nat} {xs : List Value} (h : w1.ownsRow base e k v n xs) (hb : Below w1.heap.size w1 w2) : w2.ownsRow base e k v n xs:=by
 refine ⟨h.1,?_⟩;rcases h.2 with h0 | ⟨g,cap,cur,e1,h1,hg,h2⟩
 ·exact .inl h0
 ·exact .inr ⟨g,cap,cur,e1,h1,(hb.block g (Array.getElem?_eq_some_iff.1 hg).1).trans hg,h2⟩
def zjU (kd : Int) (s : ByteArray) (p : zu) : zu:=if p.kind = kd then ⟨p.kind,s⟩ else p
def zdW (kd : Int) (s : ByteArray) (ps : List zu) : List zu:=ps.map (zjU kd s)
def zdx (kd : Int) (s : ByteArray) (ps : List zu) (k : Nat) : List zu:=(ps.take k).map (zjU kd s) ++ ps.drop k
theorem ztN (kd : Int) (s : ByteArray) (ps : List zu) (k : Nat) : (zdx kd s ps k).length = ps.length:=by
 unfold zdx;rw [List.length_append,List.length_map,<- List.length_append,List.take_append_drop]
theorem zrs (kd : Int) (s : ByteArray) (ps : List zu) : zdx kd s ps 0 = ps:=by simp [zdx]
theorem ztM (kd : Int) (s : ByteArray) (ps : List zu) : zdx kd s ps ps.length = zdW kd s ps:=by simp [zdx,zdW]
theorem zwn (kd : Int) (s : ByteArray) (ps : List zu) (k : Nat) (h : k < ps.length) (h' : k < (zdx kd s ps k).length) : (zdx kd s ps k)[k] = ps.getD k zu.zero:=by
 have hl : ((ps.take k).map (zjU kd s)).length = k:=by rw [List.length_map,List.length_take]; omega
 rw [zD _ _ _ h];unfold zdx at h' ⊢;rw [List.getElem_append_right (by omega)];simp [List.getElem_drop,Nat.min_eq_left (Nat.le_of_lt h)]
theorem zrr (kd : Int) (s : ByteArray) (ps : List zu) (k : Nat) (h : k < ps.length) : zdx kd s ps (k + 1) = (zdx kd s ps k).set k (zjU kd s (ps.getD k zu.zero)):=by
 have hl : ((ps.take k).map (zjU kd s)).length = k:=by rw [List.length_map,List.length_take]; omega
 unfold zdx;rw [List.set_append_right _ _ (by omega),hl,Nat.sub_self,zaI ps zu.zero k h,sZ,List.take_succ_eq_append_getElem h,List.map_append,List.append_assoc,zD _ _ _ h];rfl
theorem set_self {α : Type} (l : List α) (k : Nat) (h : k < l.length) : l.set k l[k] = l:=by simp
theorem zfw {P : Nat -> Prop} (w : World) (g : Nat) (cs : Array Value) (hg : ¬ P g) : zc P w (w.setRow g cs):=by
 refine ⟨by simp,fun b hb h1=>?_⟩;simp [World.setRow,Array.getElem?_modify];intro e; subst e; exact absurd h1 hg
structure zxZ (w : World) (O R NX g : Nat) (c : Int) (n cap : Nat) (ps : List zu) (we : World) : Prop where
 below : Below w.heap.size w we
 res : Blk we R 39 #[.int .u8 0,.slice none 0 0]
 out : Blk we O 39 #[.int .u8 c,.slice (some ⟨g,0,none⟩) n cap]
 apart : some O ≠ some g
 low : R < NX /\ R < O
 own : zaD NX we (.slice (some ⟨g,0,none⟩) n cap) ps
theorem zqH {B n cap : Nat} {w : World} {g : Nat} {ps : List zu} (h : zaD B w (.slice (some ⟨g,0,none⟩) n cap) ps) (k : Nat) (hk : k < ps.length) :
  g < w.heap.size /\ w.cell? ⟨g,k * 2,none⟩ = some (.int .u8 ps[k].kind) /\ w.cell? ⟨g,k * 2 + 1,none⟩ = some (.string ps[k].text) /\ w.frozen? ⟨g,k * 2 + 1,none⟩ = false:=by
 have hf:=zho h.1 (g:=g) rfl (k * 2 + 1);obtain ⟨A,c',e,-,-,h3⟩:=h.sl (fun _=>rfl);injection e with e1 e2 e3;obtain ⟨b,off,e4,hb,-,hi⟩:=h3 (by omega);rw [e4] at e1;injection e1 with e5;injection e5 with e6 e7;obtain ⟨rfl,-,hc⟩:=hi k hk;subst e6;have c0:=hc hk 0 (by omega);have c1:=hc hk 1 (by omega);simp only [zak,List.getElem?_cons_zero,List.getElem?_cons_succ,Nat.zero_add,Nat.add_zero] at c0 c1;exact ⟨hb,c0,c1,hf⟩
theorem znR (c : Int) (pv : Value) (ps : List zu) (kd : Int) (s : ByteArray) (w : World) (hv : zav w pv ps) (hl : ps.length <= 1000) (h0 : 0 < ps.length) :
  Calls Tryz.prog 17 #[.agg #[.int .u8 c,pv],.int .u8 kd,.string s] w fun e w'=>∃ v,e = .returned (.agg #[.int .u8 c,v]) /\ zaD w.heap.size w' v (zdW kd s ps) /\ Below w.heap.size w w':=by
 obtain ⟨rb,ro,cap,rfl,hrb0,hrc0⟩:=zoS hv h0;clear hv;obtain ⟨i0,hi0,hz0,hz1,hz2⟩:=info_parts zoA;have hone:=Hd (zgQ zbB ps);have hfl:=Hd (zfN zak 2 (fun _=>rfl) ps);have kG:=Hd (Blk.new w 39 #[.int .u8 c,.slice (some ⟨rb,ro,none⟩) ps.length cap]);go_enter Tryz.func17,Tryz.ntmps17;have hb0:=(((Below.refl w.heap.size w).alloc (lQ _) (.cells #[.int .u8 c,.slice (some ⟨rb,ro,none⟩) ps.length cap] 39)).alloc (by simp) (.cells #[.int .u8 0,.slice none 0 0] 39));have kG2:=Hd (kG.out.alloc (.cells #[.int .u8 0,.slice none 0 0] 39));have kR:=Hd (Blk.new_at (w.alloc (.cells #[.int .u8 c,.slice (some ⟨rb,ro,none⟩) ps.length cap] 39)) 39 #[.int .u8 0,.slice none 0 0] (w.heap.size + 1) (by simp));have hrb : rb < ((w.alloc (.cells #[.int .u8 c,.slice (some ⟨rb,ro,none⟩) ps.length cap] 39)).alloc (.cells #[.int .u8 0,.slice none 0 0] 39)).heap.size:=Nat.lt_of_lt_of_le hrb0 hb0.size;have hsrc:=Hd (zdt hrc0 hrb0 (zc.of_below hb0 (fun _=>True)) trivial);have hW:=Hd (show Way w ((w.alloc (.cells #[.int .u8 c,.slice (some ⟨rb,ro,none⟩) ps.length cap] 39)).alloc (.cells #[.int .u8 0,.slice none 0 0] 39)) ((w.alloc (.cells #[.int .u8 c,.slice (some ⟨rb,ro,none⟩) ps.length cap] 39)).alloc (.cells #[.int .u8 0,.slice none 0 0] 39)) from ⟨hb0,zc.of_below (Below.refl _ _) _⟩);have hwW:=hb0.size;clear hb0 hrc0 hrb0;have hR0 : w.heap.size < w.heap.size + 1:=by omega
 go_upto_region 1 with fail;generalize (w.alloc (.cells #[.int .u8 c,.slice (some ⟨rb,ro,none⟩) ps.length cap] 39)).alloc (.cells #[.int .u8 0,.slice none 0 0] 39) = W at *;generalize w.heap.size + 1 = R at *;have H7:=Hd (lQ W.heap.size)
 go_cut [7] (fun s7 wx=>∃ O NX g cap1,s7 = .pointer (some ⟨O,0,none⟩) /\ Hid (zxZ w O R NX g c ps.length cap1 ps wx))
 case first=>
  refine zT (C:=fun wc=>zc (fun b=>b < W.heap.size) W wc) [true,true,false,true,true,false,false,false] [2,5,6,7] (by kernel_rfl) (by kernel_rfl) (by kernel_rfl) (fun _ h=>zc.of_below h _) ?A1 ?q1 ?t1
  case q1=>
   intro S1 hS1 hSC hne;have y0:=fun (u : zaP S1)=>(kG2.out.keep (hSC u.wld u.mem) kG2.out.lt).cell 0;have y1:=fun (u : zaP S1)=>(kG2.out.keep (hSC u.wld u.mem) kG2.out.lt).cell 1;simp at y0 y1;simp only [zbM,if_true,if_false,Bool.false_eq_true]
   repeat (go_big_quiet_step (fail))
   refine wpQuiet_nil ?_;rfl
  refine zB [2,7] (by kernel_rfl) fun j hj wa hba=>?_;have hjj : j = 2 \/ j = 7:=by simpa using hj
  obtain rfl | rfl:=hjj
  ·refine ⟨_,rfl,rfl,zy (ops:=#[]) (K:=fun a' w'=>(∀ w9,Below w'.heap.size w' w9 -> (fun wc=>zc (fun b=>b < W.heap.size) W wc) w9) /\ mkG Tryz.prog _ _ (fun wc=>zc (fun b=>b < W.heap.size) W wc) _ 3 [5,6,7] a' w') rfl fun Q' hQ=>?_⟩
   simp only [gX,gQ,gZ];have hown:=Hd (zdP (w:=wa) (E:=50) (k:=2));have hW:=Hd ((hW.out.up hba).up ((Below.refl wa.heap.size wa).alloc (lQ _) (.cells #[] 50)));have hNX : W.heap.size <= wa.heap.size:=Nat.le_trans H7.out hba.size;have hNXs:=Hd (show wa.heap.size + 1 <= (wa.alloc (.cells #[] 50)).heap.size by simp);go_wp2;refine hQ _ _ rfl ⟨fun w4 h4=>(hW.out.up h4).keeps,?_⟩;clear hQ;have H7:=Hd (show W.heap.size <= (wa.alloc (.cells #[] 50)).heap.size by have:=hNXs.out; omega);clear hba;generalize wa.alloc (.cells #[] 50) = wx at *;generalize wa.heap.size = NX at *;refine zB [5,7] (by kernel_rfl) fun j hj wa hba=>?_;have hjj : j = 5 \/ j = 7:=by simpa using hj
   obtain rfl | rfl:=hjj
   ·refine ⟨_,rfl,rfl,zy (ops:=#[]) (K:=fun a' w'=>(∀ w9,Below w'.heap.size w' w9 -> (fun wc=>zc (fun b=>b < W.heap.size) W wc) w9) /\ mkG Tryz.prog _ _ (fun wc=>zc (fun b=>b < W.heap.size) W wc) _ 2 [6,7] a' w') rfl fun Q' hQ=>?_⟩
    simp only [gX,gQ,gZ];have hW:=Hd (hW.out.up hba);have hown:=Hd (zls hown.out hba);have H7:=Hd (Nat.le_trans H7.out hba.size);have hNXs:=Hd (Nat.le_trans hNXs.out hba.size);have hA:=Hd (fun (ops : Array Oper) (rest : List Oper) (o : Oper) (a : Act) (Q : Exit -> Act -> World -> Prop) hgd ho' hs hx h=>wpList_append_lies (P:=Tryz.prog) (ops:=ops) (rest:=rest) (o:=o) (a:=a) (Q:=Q) wa hgd (.tmp 11) (.tmp 13) 37 ho' NX 50 i0 (.agg #[.int .u8 0,.string ⟨#[]⟩]) 2 24 Tryz.underlying37 hi0 hz0 hz1 hz2 rfl (by decide) (.slice (some ⟨NX,0,none⟩) 0 0) 0 [] hs hown.out ⟨rb,ro,none⟩ ps.length cap (ps.flatMap zak) hx hfl.out (zdt hsrc.out hrb hW.out.keeps hrb) hone.out h0 (by unfold maxLen; omega) (by omega) (Nat.le_of_succ_le hNXs.out) _ rfl h);have hwaH:=Hd H7.out;go_wp2_with (at_builtin; refine hA.out _ _ _ _ _ rfl rfl rfl rfl ?_; intro g cap1 wC hownC hgrC hatC hltC);rw [Nat.zero_add] at hownC;have hW:=Hd (hW.out.grown hNX hwW hgrC);have hown:=Hd hownC;have H7:=Hd (Nat.le_trans H7.out hgrC.size);have hNXs:=Hd (Nat.le_trans hNXs.out hgrC.size);have hgl:=Hd hltC;refine hQ _ _ rfl ⟨fun w4 h4=>(hW.out.up h4).keeps,?_⟩;clear hQ;clear hA hownC hgrC hatC hltC hba hwaH;refine zag [6,7] (.agg #[.int .u8 c,.slice (some ⟨g,0,none⟩) ps.length cap1]) (by kernel_rfl) rfl (i:=6) rfl rfl (fun _ _=>by simp [go_sem,execOp]) (fun w2 h2=>(hW.out.up h2).keeps) ?_;simp only [gX,gQ,gZ,Act.put,sX,sS,sZ];refine zB [7] (by kernel_rfl) fun j hj wa hba=>?_;obtain rfl:=mS.1 hj;refine ⟨_,rfl,rfl,zy (ops:=#[]) (K:=fun a' w'=>(∀ w9,Below w'.heap.size w' w9 -> (fun wc=>zc (fun b=>b < W.heap.size) W wc) w9) /\ mkG Tryz.prog _ _ (fun wc=>zc (fun b=>b < W.heap.size) W wc) _ 0 [] a' w') rfl fun Q' hQ=>?_⟩;simp only [gX,gQ,gZ];have kO:=Hd (Blk.new wa 39 #[.int .u8 0,.slice none 0 0]);have hW:=Hd ((hW.out.up hba).up ((Below.refl wa.heap.size wa).alloc (lQ _) (.cells #[.int .u8 0,.slice none 0 0] 39)));have hOW:=Hd (Nat.le_trans H7.out hba.size);have H7:=Hd (show W.heap.size <= (wa.alloc (.cells #[.int .u8 0,.slice none 0 0] 39)).heap.size by have:=hOW.out; simp; omega);have hown:=Hd (zls (zls hown.out hba) ((Below.refl wa.heap.size wa).alloc (lQ _) (.cells #[.int .u8 0,.slice none 0 0] 39)));have hO:=Hd (show NX < wa.heap.size by have:=hNXs.out; have:=hba.size; omega);have hNXs:=Hd (show NX + 1 <= (wa.alloc (.cells #[.int .u8 0,.slice none 0 0] 39)).heap.size by have:=hO.out; simp; omega);have hgO:=Hd (show some wa.heap.size ≠ some g from fun e=>by have e2 : wa.heap.size = g:=Option.some.inj e; have h1:=hgl.out; have h2:=hba.size; omega);go_wp2;refine hQ _ _ rfl ⟨fun w4 h4=>(hW.out.up h4).keeps,?_⟩;clear hQ;clear hba;generalize wa.alloc (.cells #[.int .u8 0,.slice none 0 0] 39) = wx at *;generalize wa.heap.size = O at *;refine zaM rfl ?_;intro we hbe;have kOe:=Hd (kO.out.below hbe kO.out.lt);have hWe:=hW.out.up hbe;have how:=zaw.keep ze (show zaD NX _ (.slice (some ⟨g,0,none⟩) ps.length cap1) ps from ⟨hown.out,fun _ _=>trivial⟩) (zc.of_below hbe _);have hOW0:=hOW.out;have hfin:=Hd (show zxZ w O R NX g c ps.length cap1 ps (we.setRow O #[.int .u8 c,.slice (some ⟨g,0,none⟩) ps.length cap1]) from ⟨Below.setRow_ hWe.below (by have:=kR.out.lt; omega) _,Blk.setRow_far (kR.out.keep hWe.keeps kR.out.lt) (by have:=kR.out.lt; omega) _,kOe.out.setRow_ _,hgO.out,by have:=kR.out.lt; omega,zaw.far (fun _ _ _ _ _ _=>trivial) how fun b hb=>(zfw (P:=fun b=>b ≠ O) we O #[.int .u8 c,.slice (some ⟨g,0,none⟩) ps.length cap1] (fun h=>h rfl)).block b (how.block_lt hb).2 (fun e=>hgO.out (by rw [<- e]; exact hb.symm))⟩)
    refine wpList_store_rowTo rfl 39 _ _ rfl rfl O #[.int .u8 c,.slice (some ⟨g,0,none⟩) ps.length cap1] rfl rfl 39 _ kOe.out (by kernel_rfl) rfl (by kernel_rfl) ?_;clear hbe hWe kOe how hOW0;go_wp2;go_meet
    case rel=>exact ⟨_,_,_,_,rfl,hfin⟩
   ·refine ⟨_,rfl,rfl,zy (ops:=#[]) (K:=fun a' w'=>(∀ w9,Below w'.heap.size w' w9 -> (fun wc=>zc (fun b=>b < W.heap.size) W wc) w9) /\ mkG Tryz.prog _ _ (fun wc=>zc (fun b=>b < W.heap.size) W wc) _ 2 [5,6] a' w') rfl fun Q' hQ=>?_⟩
    simp only [gX,gQ,gZ];have kO:=Hd (Blk.new wa 39 #[.int .u8 0,.slice none 0 0]);have hW:=Hd ((hW.out.up hba).up ((Below.refl wa.heap.size wa).alloc (lQ _) (.cells #[.int .u8 0,.slice none 0 0] 39)));have hOW:=Hd (Nat.le_trans H7.out hba.size);have H7:=Hd (show W.heap.size <= (wa.alloc (.cells #[.int .u8 0,.slice none 0 0] 39)).heap.size by have:=hOW.out; simp; omega);have hown:=Hd (zls (zls hown.out hba) ((Below.refl wa.heap.size wa).alloc (lQ _) (.cells #[.int .u8 0,.slice none 0 0] 39)));have hO:=Hd (show NX < wa.heap.size by have:=hNXs.out; have:=hba.size; omega);have hNXs:=Hd (show NX + 1 <= (wa.alloc (.cells #[.int .u8 0,.slice none 0 0] 39)).heap.size by have:=hO.out; simp; omega);go_wp2;refine hQ _ _ rfl ⟨fun w4 h4=>(hW.out.up h4).keeps,?_⟩;clear hQ;clear hba;generalize wa.alloc (.cells #[.int .u8 0,.slice none 0 0] 39) = wx at *;generalize wa.heap.size = O at *;refine zB [5] (by kernel_rfl) fun j hj wa hba=>?_;obtain rfl:=mS.1 hj;refine ⟨_,rfl,rfl,zy (ops:=#[]) (K:=fun a' w'=>(∀ w9,Below w'.heap.size w' w9 -> (fun wc=>zc (fun b=>b < W.heap.size) W wc) w9) /\ mkG Tryz.prog _ _ (fun wc=>zc (fun b=>b < W.heap.size) W wc) _ 1 [6] a' w') rfl fun Q' hQ=>?_⟩;simp only [gX,gQ,gZ];have hW:=Hd (hW.out.up hba);have hown:=Hd (zls hown.out hba);have H7:=Hd (Nat.le_trans H7.out hba.size);have hNXs:=Hd (Nat.le_trans hNXs.out hba.size);have kO:=Hd (kO.out.below hba kO.out.lt);have hOl:=Hd kO.out.lt;have hA:=Hd (fun (ops : Array Oper) (rest : List Oper) (o : Oper) (a : Act) (Q : Exit -> Act -> World -> Prop) hgd ho' hs hx h=>wpList_append_lies (P:=Tryz.prog) (ops:=ops) (rest:=rest) (o:=o) (a:=a) (Q:=Q) wa hgd (.tmp 11) (.tmp 13) 37 ho' NX 50 i0 (.agg #[.int .u8 0,.string ⟨#[]⟩]) 2 24 Tryz.underlying37 hi0 hz0 hz1 hz2 rfl (by decide) (.slice (some ⟨NX,0,none⟩) 0 0) 0 [] hs hown.out ⟨rb,ro,none⟩ ps.length cap (ps.flatMap zak) hx hfl.out (zdt hsrc.out hrb hW.out.keeps hrb) hone.out h0 (by unfold maxLen; omega) (by omega) (Nat.le_of_succ_le hNXs.out) _ rfl h);have hwaH:=Hd H7.out;go_wp2_with (at_builtin; refine hA.out _ _ _ _ _ rfl rfl rfl rfl ?_; intro g cap1 wC hownC hgrC hatC hltC);rw [Nat.zero_add] at hownC;have kO:=Hd (kO.out.grown hgrC (fun e=>by have e2 : O = NX:=Option.some.inj e; have:=hO.out; omega))
    have hgO:=Hd (show some O ≠ some g from fun e=>by
     have e2 : O = g:=Option.some.inj e;rcases hatC with h | h
     ·have e3 : NX = g:=Option.some.inj h
      have:=hO.out;omega
     ·have:=hOl.out
      omega)
    have hW:=Hd (hW.out.grown hNX hwW hgrC);have hown:=Hd hownC;have H7:=Hd (Nat.le_trans H7.out hgrC.size);have hNXs:=Hd (Nat.le_trans hNXs.out hgrC.size);have hgl:=Hd hltC;refine hQ _ _ rfl ⟨fun w4 h4=>(hW.out.up h4).keeps,?_⟩;clear hQ;clear hA hownC hgrC hatC hltC hba hwaH;refine zag [6] (.agg #[.int .u8 c,.slice (some ⟨g,0,none⟩) ps.length cap1]) (by kernel_rfl) rfl (i:=6) rfl rfl (fun _ _=>by simp [go_sem,execOp]) (fun w2 h2=>(hW.out.up h2).keeps) ?_;simp only [gX,gQ,gZ,Act.put,sX,sS,sZ];refine zaM rfl ?_;intro we hbe;have kOe:=Hd (kO.out.below hbe kO.out.lt);have hWe:=hW.out.up hbe;have how:=zaw.keep ze (show zaD NX _ (.slice (some ⟨g,0,none⟩) ps.length cap1) ps from ⟨hown.out,fun _ _=>trivial⟩) (zc.of_below hbe _);have hOW0:=hOW.out;have hfin:=Hd (show zxZ w O R NX g c ps.length cap1 ps (we.setRow O #[.int .u8 c,.slice (some ⟨g,0,none⟩) ps.length cap1]) from ⟨Below.setRow_ hWe.below (by have:=kR.out.lt; omega) _,Blk.setRow_far (kR.out.keep hWe.keeps kR.out.lt) (by have:=kR.out.lt; omega) _,kOe.out.setRow_ _,hgO.out,by have:=kR.out.lt; omega,zaw.far (fun _ _ _ _ _ _=>trivial) how fun b hb=>(zfw (P:=fun b=>b ≠ O) we O #[.int .u8 c,.slice (some ⟨g,0,none⟩) ps.length cap1] (fun h=>h rfl)).block b (how.block_lt hb).2 (fun e=>hgO.out (by rw [<- e]; exact hb.symm))⟩);refine wpList_store_rowTo rfl 39 _ _ rfl rfl O #[.int .u8 c,.slice (some ⟨g,0,none⟩) ps.length cap1] rfl rfl 39 _ kOe.out (by kernel_rfl) rfl (by kernel_rfl) ?_;clear hbe hWe kOe how hOW0;go_wp2;go_meet
    case rel=>exact ⟨_,_,_,_,rfl,hfin⟩
  ·refine ⟨_,rfl,rfl,zy (ops:=#[]) (K:=fun a' w'=>(∀ w9,Below w'.heap.size w' w9 -> (fun wc=>zc (fun b=>b < W.heap.size) W wc) w9) /\ mkG Tryz.prog _ _ (fun wc=>zc (fun b=>b < W.heap.size) W wc) _ 3 [2,5,6] a' w') rfl fun Q' hQ=>?_⟩
   simp only [gX,gQ,gZ];have kO:=Hd (Blk.new wa 39 #[.int .u8 0,.slice none 0 0]);have hW:=Hd ((hW.out.up hba).up ((Below.refl wa.heap.size wa).alloc (lQ _) (.cells #[.int .u8 0,.slice none 0 0] 39)));have hOW:=Hd (Nat.le_trans H7.out hba.size);have H7:=Hd (show W.heap.size <= (wa.alloc (.cells #[.int .u8 0,.slice none 0 0] 39)).heap.size by have:=hOW.out; simp; omega);go_wp2;refine hQ _ _ rfl ⟨fun w4 h4=>(hW.out.up h4).keeps,?_⟩;clear hQ;clear hba;generalize wa.alloc (.cells #[.int .u8 0,.slice none 0 0] 39) = wx at *;generalize wa.heap.size = O at *;refine zB [2] (by kernel_rfl) fun j hj wa hba=>?_;obtain rfl:=mS.1 hj;refine ⟨_,rfl,rfl,zy (ops:=#[]) (K:=fun a' w'=>(∀ w9,Below w'.heap.size w' w9 -> (fun wc=>zc (fun b=>b < W.heap.size) W wc) w9) /\ mkG Tryz.prog _ _ (fun wc=>zc (fun b=>b < W.heap.size) W wc) _ 2 [5,6] a' w') rfl fun Q' hQ=>?_⟩;simp only [gX,gQ,gZ];have hown:=Hd (zdP (w:=wa) (E:=50) (k:=2));have hW:=Hd ((hW.out.up hba).up ((Below.refl wa.heap.size wa).alloc (lQ _) (.cells #[] 50)));have hNX : W.heap.size <= wa.heap.size:=Nat.le_trans H7.out hba.size;have hNXs:=Hd (show wa.heap.size + 1 <= (wa.alloc (.cells #[] 50)).heap.size by simp);have hO:=Hd (show O < wa.heap.size from Nat.lt_of_lt_of_le kO.out.lt hba.size);have kO:=Hd ((kO.out.below hba kO.out.lt).alloc (.cells #[] 50));go_wp2;refine hQ _ _ rfl ⟨fun w4 h4=>(hW.out.up h4).keeps,?_⟩;clear hQ;have H7:=Hd (show W.heap.size <= (wa.alloc (.cells #[] 50)).heap.size by have:=hNXs.out; omega);clear hba;generalize wa.alloc (.cells #[] 50) = wx at *;generalize wa.heap.size = NX at *;refine zB [5] (by kernel_rfl) fun j hj wa hba=>?_;obtain rfl:=mS.1 hj;refine ⟨_,rfl,rfl,zy (ops:=#[]) (K:=fun a' w'=>(∀ w9,Below w'.heap.size w' w9 -> (fun wc=>zc (fun b=>b < W.heap.size) W wc) w9) /\ mkG Tryz.prog _ _ (fun wc=>zc (fun b=>b < W.heap.size) W wc) _ 1 [6] a' w') rfl fun Q' hQ=>?_⟩;simp only [gX,gQ,gZ];have hW:=Hd (hW.out.up hba);have hown:=Hd (zls hown.out hba);have H7:=Hd (Nat.le_trans H7.out hba.size);have hNXs:=Hd (Nat.le_trans hNXs.out hba.size);have kO:=Hd (kO.out.below hba kO.out.lt);have hOl:=Hd kO.out.lt;have hA:=Hd (fun (ops : Array Oper) (rest : List Oper) (o : Oper) (a : Act) (Q : Exit -> Act -> World -> Prop) hgd ho' hs hx h=>wpList_append_lies (P:=Tryz.prog) (ops:=ops) (rest:=rest) (o:=o) (a:=a) (Q:=Q) wa hgd (.tmp 11) (.tmp 13) 37 ho' NX 50 i0 (.agg #[.int .u8 0,.string ⟨#[]⟩]) 2 24 Tryz.underlying37 hi0 hz0 hz1 hz2 rfl (by decide) (.slice (some ⟨NX,0,none⟩) 0 0) 0 [] hs hown.out ⟨rb,ro,none⟩ ps.length cap (ps.flatMap zak) hx hfl.out (zdt hsrc.out hrb hW.out.keeps hrb) hone.out h0 (by unfold maxLen; omega) (by omega) (Nat.le_of_succ_le hNXs.out) _ rfl h);have hwaH:=Hd H7.out;go_wp2_with (at_builtin; refine hA.out _ _ _ _ _ rfl rfl rfl rfl ?_; intro g cap1 wC hownC hgrC hatC hltC);rw [Nat.zero_add] at hownC;have kO:=Hd (kO.out.grown hgrC (fun e=>by have e2 : O = NX:=Option.some.inj e; have:=hO.out; omega))
   have hgO:=Hd (show some O ≠ some g from fun e=>by
    have e2 : O = g:=Option.some.inj e;rcases hatC with h | h
    ·have e3 : NX = g:=Option.some.inj h
     have:=hO.out;omega
    ·have:=hOl.out
     omega)
   have hW:=Hd (hW.out.grown hNX hwW hgrC);have hown:=Hd hownC;have H7:=Hd (Nat.le_trans H7.out hgrC.size);have hNXs:=Hd (Nat.le_trans hNXs.out hgrC.size);have hgl:=Hd hltC;refine hQ _ _ rfl ⟨fun w4 h4=>(hW.out.up h4).keeps,?_⟩;clear hQ;clear hA hownC hgrC hatC hltC hba hwaH;refine zag [6] (.agg #[.int .u8 c,.slice (some ⟨g,0,none⟩) ps.length cap1]) (by kernel_rfl) rfl (i:=6) rfl rfl (fun _ _=>by simp [go_sem,execOp]) (fun w2 h2=>(hW.out.up h2).keeps) ?_;simp only [gX,gQ,gZ,Act.put,sX,sS,sZ];refine zaM rfl ?_;intro we hbe;have kOe:=Hd (kO.out.below hbe kO.out.lt);have hWe:=hW.out.up hbe;have how:=zaw.keep ze (show zaD NX _ (.slice (some ⟨g,0,none⟩) ps.length cap1) ps from ⟨hown.out,fun _ _=>trivial⟩) (zc.of_below hbe _);have hOW0:=hOW.out;have hfin:=Hd (show zxZ w O R NX g c ps.length cap1 ps (we.setRow O #[.int .u8 c,.slice (some ⟨g,0,none⟩) ps.length cap1]) from ⟨Below.setRow_ hWe.below (by have:=kR.out.lt; omega) _,Blk.setRow_far (kR.out.keep hWe.keeps kR.out.lt) (by have:=kR.out.lt; omega) _,kOe.out.setRow_ _,hgO.out,by have:=kR.out.lt; omega,zaw.far (fun _ _ _ _ _ _=>trivial) how fun b hb=>(zfw (P:=fun b=>b ≠ O) we O #[.int .u8 c,.slice (some ⟨g,0,none⟩) ps.length cap1] (fun h=>h rfl)).block b (how.block_lt hb).2 (fun e=>hgO.out (by rw [<- e]; exact hb.symm))⟩);refine wpList_store_rowTo rfl 39 _ _ rfl rfl O #[.int .u8 c,.slice (some ⟨g,0,none⟩) ps.length cap1] rfl rfl 39 _ kOe.out (by kernel_rfl) rfl (by kernel_rfl) ?_;clear hbe hWe kOe how hOW0;go_wp2;go_meet
   case rel=>exact ⟨_,_,_,_,rfl,hfin⟩
 case rest=>
  obtain ⟨O,NX,g,cap1,rfl,hS⟩:=hcut;rename World=>w2;have hS0:=hS;have kO:=hS.out.out;have r1:=kO.cell 1;have lO:=kO.lt;simp at r1;clear kO hW kR kG2 hsrc;go_wp2;clear r1 lO
  go_loopw [19] (fun iv wr=>∃ k : Nat,k <= ps.length /\ iv = .int .i64 k /\ Hid (zxZ w O R NX g c ps.length cap1 (zdx kd s ps k) wr)) (fun iv _=>ps.length - (intOf iv).toNat)
  case atStart=>exact ⟨0,by omega,rfl,Hd (by rw [zrs]; exact hS0.out)⟩
  case round=>
   obtain ⟨k,hk,rfl,hR⟩:=hrel;rename World=>wr;have n0 : (0 : Int) <= (k : Int):=by omega
   have kO:=Hd hR.out.out;have r1:=kO.out.cell 1;have lO:=kO.out.lt;simp at r1;by_cases hlt : k < ps.length
   ·have n1 : (k : Int) < (ps.length : Int):=by omega
    have hwl:=Hd (ztN kd s ps k);have hkw : k < (zdx kd s ps k).length:=by rw [hwl.out]; exact hlt
    obtain ⟨lg,c0,c1,f1⟩:=zqH hR.out.own k hkw;have hat:=Hd (zwn kd s ps k hlt hkw);have hsu:=Hd (zrr kd s ps k hlt);have hself:=Hd (set_self (zdx kd s ps k) k hkw);have hown:=Hd hR.out.own;have hkw':=Hd hkw;rw [hat.out] at c0 c1;generalize ps.getD k zu.zero = q at *;obtain ⟨qk,qt⟩:=q;simp only at c0 c1;by_cases e : qk = kd
    ·subst e
     have e1 : (qk == qk) = true:=by simp
     have hst : Hid (zjU qk s ⟨qk,qt⟩ = ⟨qk,s⟩):=Hd (by unfold zjU; rw [if_pos rfl])
     have hfin:=Hd (show zxZ w O R NX g c ps.length cap1 (zdx qk s ps (k + 1)) (wr.setCell ⟨g,k * 2 + 1,none⟩ (.string s)) from by
      have hgl:=hown.out.block_lt (g:=g) rfl;refine ⟨hR.out.below.setCell (by have:=hR.out.low; simp; omega) _,hR.out.res.far (by have:=hR.out.low; simp; omega) _,hR.out.out.far (fun h=>hR.out.apart (by rw [h])) _,hR.out.apart,hR.out.low,?_⟩;rw [hsu.out,hst.out]
      exact zaw.setOne (E:=50) (k:=2) (cells:=zak) (I:=zdp) (v:=.slice (some ⟨g,0,none⟩) ps.length cap1) (ps:=zdx qk s ps k) ze (fun _=>rfl) hown.out rfl k 1 hkw'.out (by decide) (.string s) ⟨qk,s⟩ (by rw [hat.out]; rfl) trivial)
     clear hwl hkw hat hsu hself hown hkw';go_wp2;go_roundw
     case rel=>exact ⟨k + 1,by omega,by go_num,hfin⟩
     case measure=>simp [intOf]; omega
    ·have e1 : (qk == kd) = false:=by simpa using e
     have hst : Hid (zjU kd s ⟨qk,qt⟩ = ⟨qk,qt⟩):=Hd (by unfold zjU; rw [if_neg e])
     have hfin:=Hd (show zxZ w O R NX g c ps.length cap1 (zdx kd s ps (k + 1)) wr from by
      rw [hsu.out,hst.out,<- hat.out,hself.out]
      exact hR.out)
     clear e hwl hkw hat hsu hself hown hkw';go_wp2;go_roundw
     case rel=>exact ⟨k + 1,by omega,by go_num,hfin⟩
     case measure=>simp [intOf]; omega
   ·obtain rfl : k = ps.length:=by omega
    have hR2:=hR;rw [ztM] at hR2;have q0:=kO.out.cell 0;have kR:=Hd hR2.out.res;have lR:=kR.out.lt;have t0:=kR.out.cell 0;have t1:=kR.out.cell 1;have fR0:=kR.out.frozen 0;have fR1:=kR.out.frozen 1;simp at q0 t0 t1;go_wp2;refine bodyPost_ret (results_cell_row (P:=Tryz.prog) Tryz.results17 _ _ _ _ _ _ _ rfl ((kR.out.set_ 0 (.int .u8 c)).set_ 1 (.slice (some ⟨g,0,none⟩) ps.length cap1)) Tryz.underlying39 rfl (by kernel_rfl)) rfl ?_;have hlow:=hR2.out.low
    have hown2 : zaD NX ((wr.setCell ⟨R,0,none⟩ (.int .u8 c)).setCell ⟨R,1,none⟩ (.slice (some ⟨g,0,none⟩) ps.length cap1)) (.slice (some ⟨g,0,none⟩) ps.length cap1) (zdW kd s ps):=
     zaw.keep ze (zaw.keep ze hR2.out.own (zc.set_ _ _ _ (by simp; omega))) (zc.set_ _ _ _ (by simp; omega))
    have hbe:=(hR2.out.below.setCell (p:=⟨R,0,none⟩) (by simp; omega) (.int .u8 c)).setCell (p:=⟨R,1,none⟩) (by simp; omega) (.slice (some ⟨g,0,none⟩) ps.length cap1);exact ⟨_,rfl,zaw.base ze hown2 (by omega),hbe⟩
end
section
open Go.RowKit Go.Maps
def zwx (v : Nat -> ByteArray) (j : Nat) (s : ByteArray) (k : Nat) : ByteArray:=if k = j then s else v k
theorem zpx (v : Nat -> ByteArray) (j : Nat) (s : ByteArray) : zwx v j s j = s:=if_pos rfl
theorem znQ (v : Nat -> ByteArray) {j k : Nat} (s : ByteArray) (h : k ≠ j) : zwx v j s k = v k:=if_neg h
theorem zwo (v : Nat -> ByteArray) (j : Nat) (s : ByteArray) (hv : (v j).size ≠ 0) (hs : s.size ≠ 0) : ∀ k,(zG v k).map (zjU (j : Int) s) = zG (zwx v j s) k
 | 0=>rfl
 | k + 1=>by
  have ih:=zwo v j s hv hs k;rw [zG,zG,List.map_append,ih];congr 1;by_cases hk : k + 1 = j
  ·subst hk
   rw [zpx,if_neg hv,if_neg hs];simp [zjU]
  ·rw [znQ v s hk]
   split
   ·rfl
   ·have : ¬ ((k + 1 : Nat) : Int) = (j : Int):=by omega
    rw [List.map_cons,List.map_nil];unfold zjU;rw [if_neg this]
theorem ztO (v : Nat -> ByteArray) (j : Nat) (s : ByteArray) (hv : (v j).size ≠ 0) (hs : s.size ≠ 0) : zdW (j : Int) s (zm v) = zm (zwx v j s):=zwo v j s hv hs 10
theorem zyX (v : Nat -> ByteArray) (j : Nat) (s : ByteArray) (hv : (v j).size ≠ 0) (hs : s.size ≠ 0) (k : Nat) : zgz (zwx v j s) (k : Int) = zgz v (k : Int):=by
 unfold zgz;rw [Int.toNat_natCast];by_cases hk : k = j
 ·subst hk
  rw [zpx,decide_eq_true hs,decide_eq_true hv]
 ·rw [znQ v s hk]
theorem zwl {c : Int} {v : Nat -> ByteArray} {j : Nat} {s : ByteArray} (h : zR c (zm v) = true) (hv : (v j).size ≠ 0) (hs : s.size ≠ 0) (hp : zcW c (j : Int) s = true) : zR c (zm (zwx v j s)) = true:=by
 obtain ⟨h1,h2⟩:=(zeP _ _).1 h;refine (zeP _ _).2 ⟨fun k k1 k2 hz=>?_,?_⟩
 ·by_cases hk : k = j
  ·subst hk
   rw [zpx]; exact hp
  ·rw [znQ v s hk] at hz ⊢
   exact h1 k k1 k2 hz
 ·rw [zor c _ (zgz v) fun k _ _=>zyX v j s hv hs k]
  exact h2
theorem zwm {v : Nat -> ByteArray} {j : Nat} {s : ByteArray} (h : zH (zm v)) (h1 : s.size <= 1000) (h2 : zkv s) : zH (zm (zwx v j s)):=by
 intro q hq;obtain ⟨k,k1,k2,hz,rfl⟩:=(zcO _ 10 q).1 hq;by_cases hk : k = j
 ·subst hk
  simp only [zpx];exact ⟨h1,h2,by omega,by omega⟩
 ·simp only [znQ v s hk] at hz ⊢
  exact h _ ((zcO v 10 _).2 ⟨k,k1,k2,hz,rfl⟩)
structure ztZ (c : Int) (j : Nat) (s : ByteArray) : Prop where
 some_ : s.size ≠ 0
 size : s.size <= 1000
 plain : zkv s
 part : zcW c (j : Int) s = true
structure zjM (x : zi) (p : zh) (c : Int) (ps : List zu) (k : Nat) : Prop where
 small : zH ps
 right : k ≠ 4 -> zR c ps = true
 none_ : zaU (zb x) c ps p = none
end
section
open Go.RowKit Go.Maps
def zAY (s : ByteArray) (i : Nat) (b : UInt8) : ByteArray:=⟨(s.data.toList.set i b).toArray⟩
def zAq (b : Nat) : Nat:=if 65 <= b /\ b <= 90 then 65 + (b - 65 + 7) % 26 else 48 + (b - 48 + 3) % 10
def zuR (s : ByteArray) (i : Nat) : ByteArray:=zAY s i (UInt8.ofNat (zAq (zU s i)))
def ztR (s : ByteArray) (i : Nat) : Bool:=decide (i < s.size) && zgA (zU s i)
def zAw (s : ByteArray) (i : Nat) : Bool:=
 !ztR s i || (decide ((zuR s i).size ≠ 0) && (decide ((zuR s i).size <= 100) && (zfS (zuR s i) && (decide (zuR s i ≠ s) && (!zcV (zuR s i) || (decide (zmC (zuR s i) s = (1,true)) && (decide (4 <= s.size) && decide (1 <= zcD (s.size : Int)))))))))
def zAO (c : Int) (s : ByteArray) (i : Nat) : Bool:=
 !ztR s i || (decide ((zuR s i).size ≠ 0) && (decide ((zuR s i).size <= 100) && (zfS (zuR s i) && (decide (zuR s i ≠ s) && (zfO c (zuR s i) && decide (zmp (zuR s i) s = (4,true)))))))
theorem zAM : ∀ j i : Fin 5,(zjV j.val i.val).name.size <= 20:=by decide +kernel
theorem zAT : ∀ j i : Fin 5,∀ k : Fin 20,zAw (zjV j.val i.val).name k.val = true:=by decide +kernel
theorem zAF : ∀ i : Fin 7,∀ k : Fin 6,zAw (zoG ++ zaE i.val) k.val = true:=by decide +kernel
theorem zAz : ∀ i : Fin 7,∀ k : Fin 6,∀ pre suf : Bool,ztR (zoG ++ zaE i.val) k.val = true ->
  (decide (zad (if pre then zlv else ⟨#[]⟩) (zuR (zoG ++ zaE i.val) k.val) (if suf then zhx else ⟨#[]⟩) = zad (if pre then zlv else ⟨#[]⟩) (zoG ++ zaE i.val) (if suf then zhx else ⟨#[]⟩)) ||
   zcg (zad (if pre then zlv else ⟨#[]⟩) (zuR (zoG ++ zaE i.val) k.val) (if suf then zhx else ⟨#[]⟩)) (if suf then [zoT ++ zaE i.val] else [])) = false:=by decide +kernel
theorem zAs : ∀ t : Fin 5,∀ m : Fin 3,∀ k : Fin 10,zAO (zx t.val : Nat) (zcb (zx t.val) (t.val + m.val)) k.val = true:=by decide +kernel
theorem zAP (c k : Nat) : (zcb c k).size <= 10:=by
 unfold zcb
 split
 ·rw [ByteArray.size_append]; show 4 + 1 <= 10; decide
 ·split
  ·rw [ByteArray.size_append]; show 5 + 1 <= 10; decide
  ·rw [ByteArray.size_append]; show 3 + 1 <= 10; decide
theorem zAv {s : ByteArray} {i : Nat} (h : ztR s i = true) : i < s.size:=by
 unfold ztR at h;rw [Bool.and_eq_true] at h;exact of_decide_eq_true h.1
theorem zAR (x : zi) (t : Nat) (p : zh) (h : BasePt x t p) (i : Nat) (hf : ztR (zX (zb x) p 8) i = true) : zAw (zX (zb x) p 8) i = true:=by
 have hs:=zcU x t p h;have h5:=zal x
 have hv : zX (zb x) p 8 = (zjV ((t + zej x.cuts t) % 5) t).name:=by
  show (zas (zb x) p.town).1.name = _;rw [hs.2.1,zdO x t hs.1];rfl
 have hj : (t + zej x.cuts t) % 5 < 5:=Nat.mod_lt _ (by omega);have ht : t < 5:=by have:=hs.1; omega
 rw [hv] at hf ⊢;have h1:=zAv hf;have h2:=zAM ⟨_,hj⟩ ⟨t,ht⟩;exact zAT ⟨_,hj⟩ ⟨t,ht⟩ ⟨i,Nat.lt_of_lt_of_le h1 h2⟩
theorem zAC (x : zi) (t : Nat) (p : zh) (h : BasePt x t p) (i : Nat) (hf : ztR (zX (zb x) p 4) i = true) :
  p.street ≠ 0 /\ zAw (zX (zb x) p 4) i = true /\ zhh (zb x) (zad (zX (zb x) p 3) (zuR (zX (zb x) p 4) i) (zX (zb x) p 5)) p.street = false:=by
 rcases zin x t p h with ⟨h0,-,-⟩ | ⟨k,hk,-,hp,-⟩
 ·have e4 : zX (zb x) p 4 = ⟨#[]⟩:=by show (zn (zb x) p.street).1.name = _; rw [h0,zeS]; rfl
  rw [e4] at hf;have h1:=zAv hf;have h2 : (⟨#[]⟩ : ByteArray).size = 0:=rfl;omega
 ·have h7:=zah x
  have hS : (zn (zb x) p.street).1 = zac x k:=by rw [hp,zcH x k hk]
  have e3 : zX (zb x) p 3 = if zaW x k then zlv else ⟨#[]⟩:=by
   show (zn (zb x) p.street).1.pre = _;rw [hS]; rfl
  have e4 : zX (zb x) p 4 = zoG ++ zaE k:=by
   show (zn (zb x) p.street).1.name = _;rw [hS]; rfl
  have e5 : zX (zb x) p 5 = if zbp x k then zhx else ⟨#[]⟩:=by
   show (zn (zb x) p.street).1.suffix = _;rw [hS]; rfl
  rw [e4] at hf;have h1:=zAv hf;have hn : (zoG ++ zaE k).size = 6:=by rw [ByteArray.size_append]; rfl
  have hi : i < 6:=by omega
  refine ⟨by omega,by rw [e4]; exact zAF ⟨k,by omega⟩ ⟨i,hi⟩,?_⟩;have ha:=zAz ⟨k,by omega⟩ ⟨i,hi⟩ (zaW x k) (zbp x k) hf;unfold zhh;rw [hS,e3,e4,e5];exact ha
theorem zAQ (x : zi) (t : Nat) (p : zh) (h : BasePt x t p) (i : Nat) (hf : ztR (zX (zb x) p 10) i = true) : zAO (zx t : Nat) (zX (zb x) p 10) i = true:=by
 have hs:=zcU x t p h;have h5:=zal x;have hv : zX (zb x) p 10 ∈ zbt t:=(zuM x t p h).2;have ht : t < 5:=by have:=hs.1; omega
 have hz : ∀ m : Fin 3,(zcb (zx t) (t + m.val)).size <= 10:=fun m=>by
  exact zAP (zx t) (t + m.val)
 generalize zX (zb x) p 10 = s at *;have h1:=zAv hf;unfold zbt at hv;simp only [List.mem_cons,List.not_mem_nil,or_false] at hv;rcases hv with rfl | rfl | rfl
 ·exact zAs ⟨t,ht⟩ ⟨0,by omega⟩ ⟨i,Nat.lt_of_lt_of_le h1 (hz ⟨0,by omega⟩)⟩
 ·exact zAs ⟨t,ht⟩ ⟨1,by omega⟩ ⟨i,Nat.lt_of_lt_of_le h1 (hz ⟨1,by omega⟩)⟩
 ·exact zAs ⟨t,ht⟩ ⟨2,by omega⟩ ⟨i,Nat.lt_of_lt_of_le h1 (hz ⟨2,by omega⟩)⟩
theorem zAX {v : Nat -> ByteArray} {j : Nat} {s : ByteArray} {e : Int} {r : zhO} (hs : s.size ≠ 0) (hne : s ≠ v j) (he : r.kind = j -> r.edits s (v j) = (e,true)) : zpk (zwx v j s) v r = some (if r.kind = j then e else 0):=by
 unfold zpk;by_cases hk : r.kind = j
 ·have h:=he hk
  rw [hk,zpx,if_neg hs,if_neg hne,h,if_pos rfl,if_pos rfl]
 ·rw [znQ v s hk,if_neg hk]
  by_cases hz : (v r.kind).size = 0
  ·rw [if_pos hz,if_pos hz]
  ·rw [if_neg hz,if_pos rfl]
theorem zAp {v : Nat -> ByteArray} {j : Nat} {s : ByteArray} {e : Int} (hs : s.size ≠ 0) (hne : s ≠ v j) : ∀ l : List zhO,(∀ r ∈ l,r.kind = j -> r.edits s (v j) = (e,true)) -> zmP (zwx v j s) v l = some (l.map fun r=>if r.kind = j then e else 0).sum
 | [],_=>rfl
 | r :: t,h=>by
  rw [zmP,zAX hs hne (h r (List.mem_cons_self ..)),zAp hs hne t fun x hx=>h x (List.mem_cons_of_mem _ hx)];rfl
theorem zAJ (al : Bool) : zzS (some 0) al = some 0:=by cases al <;> rfl
theorem zAx (f : zw) (p : zh) (j : Nat) (s : ByteArray) (e : Int) (hs : s.size ≠ 0) (hne : s ≠ zX f p j)
  (hj : (j = 8 /\ zaK s (zX f p 8) = (e,true)) \/ (j = 4 /\ zaK s (zX f p 4) = (e,true) /\ p.street ≠ 0 /\ zhh f (zad (zX f p 3) s (zX f p 5)) p.street = false) \/ (j = 10 /\ zaq s (zX f p 10) = (e,true))) :
  ∃ ns,zaU f (zcT f p) (zm (zwx (zX f p) j s)) p = some ns /\ zO ns = e:=by
 refine map_some ?_;rw [zqy,if_pos (show (zas f p.town).1.country = zcT f p from rfl)];unfold zrR;rcases hj with ⟨rfl,he⟩ | ⟨rfl,he,h0,ha⟩ | ⟨rfl,he⟩
 ·have h1:=zAp (e:=e) hs hne (zaj (zas f p.town).1) fun r hr hk=>by
   simp only [zaj,List.mem_cons,List.not_mem_nil,or_false] at hr;rcases hr with rfl | rfl
   ·exact he
   ·cases hk
  have h2:=zAp (e:=e) hs hne (zF (zn f p.street).1) fun r hr hk=>by
   simp only [zF,List.mem_cons,List.not_mem_nil,or_false] at hr;rcases hr with rfl | rfl | rfl <;> cases hk
  have h3:=zAp (e:=e) hs hne (zQ f p) fun r hr hk=>by
   simp only [zQ,List.mem_cons,List.not_mem_nil,or_false] at hr;rcases hr with rfl | rfl | rfl | rfl | rfl <;> cases hk
  have hst : zlD f (zwx (zX f p) 8 s) p = some 0:=by
   unfold zlD
   split
   ·rfl
   ·rw [h2]; exact zAJ _
  rw [h1,hst,h3];simp [zaj,zQ,zww]
 ·have h1:=zAp (e:=e) hs hne (zaj (zas f p.town).1) fun r hr hk=>by
   simp only [zaj,List.mem_cons,List.not_mem_nil,or_false] at hr;rcases hr with rfl | rfl <;> cases hk
  have h2:=zAp (e:=e) hs hne (zF (zn f p.street).1) fun r hr hk=>by
   simp only [zF,List.mem_cons,List.not_mem_nil,or_false] at hr;rcases hr with rfl | rfl | rfl
   ·cases hk
   ·exact he
   ·cases hk
  have h3:=zAp (e:=e) hs hne (zQ f p) fun r hr hk=>by
   simp only [zQ,List.mem_cons,List.not_mem_nil,or_false] at hr;rcases hr with rfl | rfl | rfl | rfl | rfl <;> cases hk
  have hst : zlD f (zwx (zX f p) 4 s) p = some e:=by
   unfold zlD;rw [if_neg h0,h2,zpx,znQ _ _ (by omega),znQ _ _ (by omega),ha];simp [zF,zzS]
  rw [h1,hst,h3];simp [zaj,zQ,zww]
 ·have h1:=zAp (e:=e) hs hne (zaj (zas f p.town).1) fun r hr hk=>by
   simp only [zaj,List.mem_cons,List.not_mem_nil,or_false] at hr;rcases hr with rfl | rfl <;> cases hk
  have h2:=zAp (e:=e) hs hne (zF (zn f p.street).1) fun r hr hk=>by
   simp only [zF,List.mem_cons,List.not_mem_nil,or_false] at hr;rcases hr with rfl | rfl | rfl <;> cases hk
  have h3:=zAp (e:=e) hs hne (zQ f p) fun r hr hk=>by
   simp only [zQ,List.mem_cons,List.not_mem_nil,or_false] at hr;rcases hr with rfl | rfl | rfl | rfl | rfl
   ·cases hk
   ·cases hk
   ·cases hk
   ·cases hk
   ·exact he
  have hst : zlD f (zwx (zX f p) 10 s) p = some 0:=by
   unfold zlD
   split
   ·rfl
   ·rw [h2]; exact zAJ _
  rw [h1,hst,h3];simp [zaj,zQ,zww]
structure zAI (x : zi) (p : zh) (kd : Nat) (size : Nat) (ps : List zu) : Prop where
 small : zH ps
 code : kd = 10 -> zR (zcT (zb x) p) ps = true /\ ∃ ns,zaU (zb x) (zcT (zb x) p) ps p = some ns /\ zO ns = 4
 name : kd ≠ 10 -> zR (zcT (zb x) p) ps = false \/ (zR (zcT (zb x) p) ps = true /\ 4 <= size /\ 1 <= zcD (size : Int) /\ ∃ ns,zaU (zb x) (zcT (zb x) p) ps p = some ns /\ zO ns = 1)
theorem zAy {c : Int} {j : Nat} (hj : j = 8 \/ j = 4) (s : ByteArray) : zcW c (j : Int) s = zcV s:=by
 rcases hj with rfl | rfl
 ·unfold zcW
  rw [if_neg (by decide),if_neg (by decide),if_neg (by decide),if_neg (by decide),if_neg (by decide),if_neg (by decide),if_neg (by decide),if_pos (by rfl)]
 ·unfold zcW
  rw [if_neg (by decide),if_neg (by decide),if_neg (by decide),if_pos (by rfl)]
theorem zAS (c : Int) (s : ByteArray) : zcW c ((10 : Nat) : Int) s = zfO c s:=by
 unfold zcW;rw [if_neg (by decide),if_neg (by decide),if_neg (by decide),if_neg (by decide),if_neg (by decide),if_neg (by decide),if_neg (by decide),if_neg (by decide),if_neg (by decide),if_pos (by rfl)]
theorem zAV (x : zi) (p : zh) (hp : p ∈ (zb x).points) (kd : Nat) (hk : kd = 8 \/ kd = 4 \/ kd = 10) (i : Nat) (hf : ztR (zX (zb x) p kd) i = true) :
  zAI x p kd (zX (zb x) p kd).size (zdW (kd : Int) (zuR (zX (zb x) p kd) i) (zm (zX (zb x) p))):=by
 obtain ⟨t,i0,-,-,hb⟩:=zcx x p hp;have hr:=zeL x p hp;have hv : (zX (zb x) p kd).size ≠ 0:=by have:=zAv hf; omega
 have hname : (kd = 8 \/ kd = 4) -> zAw (zX (zb x) p kd) i = true -> (kd = 4 -> p.street ≠ 0 /\ zhh (zb x) (zad (zX (zb x) p 3) (zuR (zX (zb x) p 4) i) (zX (zb x) p 5)) p.street = false) ->
   zAI x p kd (zX (zb x) p kd).size (zdW (kd : Int) (zuR (zX (zb x) p kd) i) (zm (zX (zb x) p))):=by
  intro hk2 he ha;unfold zAw at he;rw [hf,Bool.not_true,Bool.false_or,Bool.and_eq_true,Bool.and_eq_true,Bool.and_eq_true,Bool.and_eq_true,decide_eq_true_eq,decide_eq_true_eq,decide_eq_true_eq] at he;obtain ⟨h1,h2,h3,h4,h5⟩:=he;rw [ztO _ kd _ hv h1];refine ⟨zwm hr.2 (by omega) (zgY h3),fun h=>by omega,fun _=>?_⟩
  cases hn : zcV (zuR (zX (zb x) p kd) i) with
  | false=>
   left
   cases hrr : zR (zcT (zb x) p) (zm (zwx (zX (zb x) p) kd (zuR (zX (zb x) p kd) i))) with
   | false=>rfl
   | true=>
    have h6:=((zeP _ _).1 hrr).1 kd (by omega) (by omega) (by rw [zpx]; exact h1);rw [zpx,zAy hk2,hn] at h6;cases h6
  | true=>
   right;rw [hn,Bool.not_true,Bool.false_or,Bool.and_eq_true,Bool.and_eq_true,decide_eq_true_eq,decide_eq_true_eq,decide_eq_true_eq,<- zcs] at h5;refine ⟨zwl hr.1 hv h1 (by rw [zAy hk2]; exact hn),h5.2.1,h5.2.2,zAx _ p kd _ 1 h1 h4 ?_⟩;rcases hk2 with rfl | rfl
   ·exact .inl ⟨rfl,h5.1⟩
   ·exact .inr (.inl ⟨rfl,h5.1,ha rfl⟩)
 rcases hk with rfl | rfl | rfl
 ·exact hname (.inl rfl) (zAR x t p hb i hf) (fun h=>by omega)
 ·obtain ⟨h1,h2,h3⟩:=zAC x t p hb i hf
  exact hname (.inr rfl) h2 fun _=>⟨h1,h3⟩
 ·have he:=zAQ x t p hb i hf
  unfold zAO at he;rw [hf,Bool.not_true,Bool.false_or,Bool.and_eq_true,Bool.and_eq_true,Bool.and_eq_true,Bool.and_eq_true,Bool.and_eq_true,decide_eq_true_eq,decide_eq_true_eq,decide_eq_true_eq,decide_eq_true_eq,<- zdz] at he;obtain ⟨h1,h2,h3,h4,h5,h6⟩:=he;rw [<- zqG x t p hb] at h5;rw [show ((10 : Nat) : Int) = ((10 : Nat) : Int) from rfl,ztO _ 10 _ hv h1];exact ⟨zwm hr.2 (by omega) (zgY h3),fun _=>⟨zwl hr.1 hv h1 (by rw [zAS]; exact h5),zAx _ p 10 _ 4 h1 h4 (.inr (.inr ⟨rfl,h6⟩))⟩,fun h=>absurd rfl h⟩
end
end Go.Proofs.YtggimnndflkjkaaGreatDoor
