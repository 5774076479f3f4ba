import Derived.Test.YtggimnndflkjkaaGreatDoorR01
import Derived.Test.YtggimnndflkjkaaGreatDoorR10
import Derived.Test.YtggimnndflkjkaaGreatDoorR12
import Derived.Test.YtggimnndflkjkaaGreatDoorR22
import Derived.Test.YtggimnndflkjkaaGreatDoorR23
import Derived.BigRegion
set_option linter.all false
set_option maxRecDepth 100000
set_option maxHeartbeats 0
namespace Go.Proofs.YtggimnndflkjkaaGreatDoor
section
open Go.RowKit Go.Maps
theorem zbA {P : Program} {f : FuncId} {fn : Func} (hf : P.funcs[f]? = some fn) (hname : (fn.name == "runtime.NumGoroutine") = false) (hb : fn.body.isNone = false) (args : Array Value) (w : World) :
  (callFunc f args).run P w = .ok (.enter f args) w:=by
 have h1 : fn.name ≠ "runtime.NumGoroutine":=by simpa using hname
 have h2 : fn.body ≠ none:=fun e=>by rw [e] at hb; cases hb
 simp [callFunc,hf,h1,h2]
theorem zzl (args : Array Value) (W : World) : (callFunc 89 args).run Tryz.prog W = .ok (.enter 89 args) W:=zbA Tryz.func89 (by kernel_rfl) (by kernel_rfl) args W
theorem zkB (args : Array Value) (W : World) : (callFunc 91 args).run Tryz.prog W = .ok (.enter 91 args) W:=zbA Tryz.func91 (by kernel_rfl) (by kernel_rfl) args W
theorem zzm (args : Array Value) (W : World) : (callFunc 92 args).run Tryz.prog W = .ok (.enter 92 args) W:=zbA Tryz.func92 (by kernel_rfl) (by kernel_rfl) args W
theorem zzn (args : Array Value) (W : World) : (callFunc 93 args).run Tryz.prog W = .ok (.enter 93 args) W:=zbA Tryz.func93 (by kernel_rfl) (by kernel_rfl) args W
theorem zzo (args : Array Value) (W : World) : (callFunc 94 args).run Tryz.prog W = .ok (.enter 94 args) W:=zbA Tryz.func94 (by kernel_rfl) (by kernel_rfl) args W
theorem zzp (args : Array Value) (W : World) : (callFunc 95 args).run Tryz.prog W = .ok (.enter 95 args) W:=zbA Tryz.func95 (by kernel_rfl) (by kernel_rfl) args W
theorem zzq (args : Array Value) (W : World) : (callFunc 96 args).run Tryz.prog W = .ok (.enter 96 args) W:=zbA Tryz.func96 (by kernel_rfl) (by kernel_rfl) args W
theorem zyg (args : Array Value) (W : World) : (callFunc 152 args).run Tryz.prog W = .ok (.enter 152 args) W:=zbA Tryz.func152 (by kernel_rfl) (by kernel_rfl) args W
theorem zur (args : Array Value) (W : World) : (callFunc 153 args).run Tryz.prog W = .ok (.enter 153 args) W:=zbA Tryz.func153 (by kernel_rfl) (by kernel_rfl) args W
theorem zyh (args : Array Value) (W : World) : (callFunc 154 args).run Tryz.prog W = .ok (.enter 154 args) W:=zbA Tryz.func154 (by kernel_rfl) (by kernel_rfl) args W
theorem zyi (args : Array Value) (W : World) : (callFunc 155 args).run Tryz.prog W = .ok (.enter 155 args) W:=zbA Tryz.func155 (by kernel_rfl) (by kernel_rfl) args W
theorem zyj (args : Array Value) (W : World) : (callFunc 156 args).run Tryz.prog W = .ok (.enter 156 args) W:=zbA Tryz.func156 (by kernel_rfl) (by kernel_rfl) args W
theorem zyk (args : Array Value) (W : World) : (callFunc 157 args).run Tryz.prog W = .ok (.enter 157 args) W:=zbA Tryz.func157 (by kernel_rfl) (by kernel_rfl) args W
def noP (_ _ : ByteArray) : Int × Bool:=(0,false)
def zaj (t : zJ) : List zhO:=[⟨8,152,6,153,t.name,zaK⟩,⟨9,154,1,91,t.region,noP⟩]
def zF (s : zz) : List zhO:=[⟨3,155,1,91,s.pre,noP⟩,⟨4,156,-1,153,s.name,zaK⟩,⟨5,157,2,91,s.suffix,noP⟩]
def zQ (f : zw) (p : zh) : List zhO:=[⟨1,89,-1,91,zao p.number,noP⟩,⟨2,92,-1,91,p.letter,noP⟩,⟨6,93,5,91,p.unit,noP⟩,⟨7,94,-1,91,zao p.box,noP⟩,
 ⟨10,95,3,96,(zdD f p.town p.street (zW p)).1.code,zaq⟩]
def zpI (fd : List ByteArray) : Prop:=∀ k,(zab fd k).size <= 1000000
theorem znN {vt vs vr vp ct cs : Value} {r : zpH} {w : World} {fd : List ByteArray} (ht : zt vt) (hs : zt vs) (hr : zt vr) (hp : zt vp) (hct : zt ct) (hcs : zt cs) (hfd : zpI fd) (hn : r.town.name.size <= 1000) :
  ∀ x ∈ zaj r.town,zmW w (zfF vt vs vr vp r ct cs) fd x:=by
 intro x hx;simp only [zaj,List.mem_cons,List.not_mem_nil,or_false] at hx;rcases hx with rfl | rfl
 ·exact ⟨by simp,zyg,zur,fun W _=>zvI vt vs vr vp ct cs r W ht hs hr hp hct hcs,fun W _=>zjz _ _ W (hfd 8) (Nat.le_trans hn (by omega))⟩
 ·exact ⟨by simp,zyh,zkB,fun W _=>zty vt vs vr vp ct cs r W ht hs hr hp hct hcs,fun W _=>zdC _ _ W⟩
theorem zlB {vt vs vr vp ct cs : Value} {r : zpH} {w : World} {fd : List ByteArray} (ht : zt vt) (hs : zt vs) (hr : zt vr) (hp : zt vp) (hct : zt ct) (hcs : zt cs) (hfd : zpI fd) (hn : r.street.name.size <= 1000) :
  ∀ x ∈ zF r.street,zmW w (zfF vt vs vr vp r ct cs) fd x:=by
 intro x hx;simp only [zF,List.mem_cons,List.not_mem_nil,or_false] at hx;rcases hx with rfl | rfl | rfl
 ·exact ⟨by simp,zyi,zkB,fun W _=>zyQ vt vs vr vp ct cs r W ht hs hr hp hct hcs,fun W _=>zdC _ _ W⟩
 ·exact ⟨by simp,zyj,zur,fun W _=>zvH vt vs vr vp ct cs r W ht hs hr hp hct hcs,fun W _=>zjz _ _ W (hfd 4) (Nat.le_trans hn (by omega))⟩
 ·exact ⟨by simp,zyk,zkB,fun W _=>ztz vt vs vr vp ct cs r W ht hs hr hp hct hcs,fun W _=>zdC _ _ W⟩
theorem zma {vt vs vr vp ct cs : Value} {f : zw} {r : zpH} {w : World} {fd : List ByteArray} (hf : zaf w vt vs vr vp f) (hct : zt ct) (hcs : zt cs)
  (hn0 : 0 <= zW r.point) (hn1 : zW r.point <= 1000000) (h1 : zam r.point.number) (h2 : zam r.point.box) (htab : zbz w) : ∀ x ∈ zQ f r.point,zmW w (zfF vt vs vr vp r ct cs) fd x:=by
 obtain ⟨ht,hs,hr,hp⟩:=hf.forms;intro x hx;simp only [zQ,List.mem_cons,List.not_mem_nil,or_false] at hx;rcases hx with rfl | rfl | rfl | rfl | rfl
 ·exact ⟨by simp,zzl,zkB,fun W hb=>ztx vt vs vr vp ct cs r W ht hs hr hp hct hcs h1.1 h1.2 (htab.below hb),fun W _=>zdC _ _ W⟩
 ·exact ⟨by simp,zzm,zkB,fun W _=>ztw vt vs vr vp ct cs r W ht hs hr hp hct hcs,fun W _=>zdC _ _ W⟩
 ·exact ⟨by simp,zzn,zkB,fun W _=>zxt vt vs vr vp ct cs r W ht hs hr hp hct hcs,fun W _=>zdC _ _ W⟩
 ·exact ⟨by simp,zzo,zkB,fun W hb=>zyP vt vs vr vp ct cs r W ht hs hr hp hct hcs h2.1 h2.2 (htab.below hb),fun W _=>zdC _ _ W⟩
 ·exact ⟨by simp,zzp,zzq,fun W hb=>zxs vt vs vr vp ct cs f r W (hf.stays (zo.of hb)) hct hcs hn0 hn1,fun W _=>zjl _ _ W⟩
def zax (f : zw) (cty : Int) (fd : List ByteArray) (id : Int) : Option (List zP):=
 if (zas f id).1.country = cty then zI fd (zaj (zas f id).1) else none
def zhh (f : zw) (tx : ByteArray) (id : Int) : Bool:=decide (tx = (zn f id).1.text) || zcg tx (zn f id).1.others
def zZ (f : zw) (fd : List ByteArray) (tx : ByteArray) (id : Int) : Option (List zP):=
 match zI fd (zF (zn f id).1) with
 | none=>if zhh f tx id then some [⟨4,4,0⟩] else none
 | some ns=>if 0 < zO ns /\ zhh f tx id then some [⟨4,4,0⟩] else some ns
def zbu (f : zw) (fd : List ByteArray) (p : zh) : Option (List zP):=zI fd (zQ f p)
def zeY (r : zhO) : Prop:=r.missing <= 1000 /\ -1 <= r.missing /\ ∀ a b,(r.edits a b).2 = true -> 0 <= (r.edits a b).1 /\ (r.edits a b).1 <= 1000
theorem zcf (fd : List ByteArray) : ∀ (l : List zhO),(∀ r ∈ l,zeY r) -> ∀ ns,zI fd l = some ns -> zkq ns /\ ns.length <= l.length
 | [],_,ns,h=>by
  simp only [zI,Option.some.injEq] at h;subst h;exact ⟨(fun _ h=>by cases h),lQ _⟩
 | r :: t,hl,ns,h=>by
  have hr:=hl r (List.mem_cons_self ..);have ih:=zcf fd t fun x hx=>hl x (List.mem_cons_of_mem _ hx)
  have hst : ∀ n,zgn fd r = some (some n) -> 0 <= n.cost /\ n.cost <= 1000000:=by
   intro n hn;unfold zgn at hn;obtain ⟨m1,m2,m3⟩:=hr
   split at hn
   ·split at hn
    ·cases hn
    ·split at hn
     ·cases hn
     ·cases hn; constructor <;> simp <;> omega
   ·split at hn
    ·cases hn; constructor <;> simp
    ·split at hn
     ·rename_i he
      cases hn
      have:=m3 _ _ he;constructor <;> simp <;> omega
     ·cases hn
  unfold zI at h
  cases hs : zgn fd r with
  | none=>rw [hs] at h; cases h
  | some o=>
   rw [hs] at h
   cases o with
   | none=>exact ⟨(ih ns h).1,Nat.le_succ_of_le (ih ns h).2⟩
   | some n=>
    simp only at h
    cases hc : zI fd t with
    | none=>rw [hc] at h; cases h
    | some m=>
     rw [hc] at h;cases h
     obtain ⟨i1,i2⟩:=ih m hc;refine ⟨fun x hx=>?_,Nat.succ_le_succ i2⟩;rcases List.mem_cons.1 hx with rfl | hx
     ·exact hst _ hs
     ·exact i1 x hx
theorem zgj (a b : ByteArray) (h : (zaK a b).2 = true) : 0 <= (zaK a b).1 /\ (zaK a b).1 <= 1000:=by
 have:=zmO b.size;unfold zaK at h ⊢
 split at h
 ·cases h
 ·split at h
  ·rename_i h1 h2
   rw [if_neg h1,if_pos h2];simp only;omega
  ·cases h
theorem zge (a b : ByteArray) (h : (zaq a b).2 = true) : 0 <= (zaq a b).1 /\ (zaq a b).1 <= 1000:=by
 unfold zaq at h ⊢
 split at h
 ·rename_i h1; rw [if_pos h1]; simp
 ·cases h
theorem zhq (t : zJ) : ∀ r ∈ zaj t,zeY r:=by
 intro r hr;simp only [zaj,List.mem_cons,List.not_mem_nil,or_false] at hr;rcases hr with rfl | rfl
 ·exact ⟨by simp,by simp,zgj⟩
 ·exact ⟨by simp,by simp,fun _ _ h=>by cases h⟩
theorem zec (t : zz) : ∀ r ∈ zF t,zeY r:=by
 intro r hr;simp only [zF,List.mem_cons,List.not_mem_nil,or_false] at hr;rcases hr with rfl | rfl | rfl
 ·exact ⟨by simp,by simp,fun _ _ h=>by cases h⟩
 ·exact ⟨by simp,by simp,zgj⟩
 ·exact ⟨by simp,by simp,fun _ _ h=>by cases h⟩
theorem zgG (f : zw) (p : zh) : ∀ r ∈ zQ f p,zeY r:=by
 intro r hr;simp only [zQ,List.mem_cons,List.not_mem_nil,or_false] at hr;rcases hr with rfl | rfl | rfl | rfl | rfl
 ·exact ⟨by simp,by simp,fun _ _ h=>by cases h⟩
 ·exact ⟨by simp,by simp,fun _ _ h=>by cases h⟩
 ·exact ⟨by simp,by simp,fun _ _ h=>by cases h⟩
 ·exact ⟨by simp,by simp,fun _ _ h=>by cases h⟩
 ·exact ⟨by simp,by simp,zge⟩
theorem zdV {f : zw} {cty : Int} {fd : List ByteArray} {id : Int} {ns : List zP} (h : zax f cty fd id = some ns) : zkq ns /\ ns.length <= 2:=by
 unfold zax at h
 split at h
 ·exact zcf fd _ (zhq _) ns h
 ·cases h
theorem zdL {f : zw} {fd : List ByteArray} {tx : ByteArray} {id : Int} {ns : List zP} (h : zZ f fd tx id = some ns) : zkq ns /\ ns.length <= 3:=by
 have ha : zkq [⟨4,4,0⟩] /\ ([⟨4,4,0⟩] : List zP).length <= 3:=⟨fun n hn=>by simp at hn; subst hn; simp,by simp⟩;unfold zZ at h
 split at h
 ·split at h
  ·cases h; exact ha
  ·cases h
 ·rename_i ms hc
  split at h
  ·cases h; exact ha
  ·cases h; exact zcf fd _ (zec _) _ hc
theorem zfU {f : zw} {fd : List ByteArray} {p : zh} {ns : List zP} (h : zbu f fd p = some ns) : zkq ns /\ ns.length <= 5:=zcf fd _ (zgG _ _) ns h
def zbw (P : Nat -> Prop) (w : World) (v : Value) (ns : List zP) : Prop:=SlP P w v ns.length fun b off i=>zjh w b (off + i * 3) (ns.getD i zP.zero)
theorem zjh.keep {P : Nat -> Prop} {w w' : World} {b o : Nat} {n : zP} (h : zjh w b o n) (hk : zc P w w') (hb : b < w.heap.size) (hp : P b) : zjh w' b o n:=
 ⟨(hk.cell hb hp).trans h.1,(hk.cell hb hp).trans h.2.1,(hk.cell hb hp).trans h.2.2⟩
theorem zbw.keep {P Q : Nat -> Prop} {w w' : World} {v : Value} {ns : List zP} (h : zbw P w v ns) (hk : zc P w w') (hPQ : ∀ b,b < w.heap.size -> P b -> Q b) : zbw Q w' v ns:=
 SlP.map h hk.size hPQ fun _ _ _ hb hp _ hc=>hc.keep hk hb hp
theorem zbw.notes {P : Nat -> Prop} {w : World} {v : Value} {ns : List zP} (h : zbw P w v ns) : zhs w v ns:=SlP.plain h fun _ _ _ _ _ _ hc=>hc
theorem zbw.weaken {P Q : Nat -> Prop} {w : World} {v : Value} {ns : List zP} (h : zbw P w v ns) (hPQ : ∀ b,b < w.heap.size -> P b -> Q b) : zbw Q w v ns:=
 SlP.map h (lQ _) hPQ fun _ _ _ _ _ _ hc=>hc
theorem zbT.notesP {B : Nat} {w : World} {v : Value} {ns : List zP} (h : zbT B w v ns) : zbw (fun b=>B <= b) w v ns:=
 SlP.map (h.sl fun _=>rfl) (lQ _) (fun _ _ hp=>hp) fun b off i _ _ hi ⟨ho,_,hc⟩=>by
  subst ho;have hc':=hc hi;rw [zD _ _ _ hi];exact ⟨hc' 0 (by omega),hc' 1 (by omega),hc' 2 (by omega)⟩
def ziE (P : Nat -> Prop) (w : World) (v : Value) (o : Option (List zP)) : Prop:=
 (o = none /\ v = .agg #[.slice none 0 0,.bool false]) \/ ∃ ns nv,o = some ns /\ v = .agg #[nv,.bool true] /\ zbw P w nv ns
theorem ziE.keep {P Q : Nat -> Prop} {w w' : World} {v : Value} {o : Option (List zP)} (h : ziE P w v o) (hk : zc P w w') (hPQ : ∀ b,b < w.heap.size -> P b -> Q b) : ziE Q w' v o:=by
 rcases h with h | ⟨ns,nv,h1,h2,h3⟩
 ·exact .inl h
 ·exact .inr ⟨ns,nv,h1,h2,h3.keep hk hPQ⟩
theorem zc.weaken {P Q : Nat -> Prop} {w w' : World} (h : zc P w w') (hPQ : ∀ b,Q b -> P b) : zc Q w w':=⟨h.size,fun b hb hq=>h.block b hb (hPQ b hq)⟩
theorem zc.refl (P : Nat -> Prop) (w : World) : zc P w w:=⟨lQ _,fun _ _ _=>rfl⟩
structure zeA where
 vt : Value
 vs : Value
 vr : Value
 vp : Value
 f : zw
 cty : Int
 fd : List ByteArray
 tx : ByteArray
 X : Nat -> Prop
def zeA.cells (D : zeA) (T S : Nat) : Array Value:=#[D.vt,D.vs,D.vr,D.vp,.int .u8 D.cty,
 .string (zab D.fd 0),.string (zab D.fd 1),.string (zab D.fd 2),.string (zab D.fd 3),.string (zab D.fd 4),.string (zab D.fd 5),.string (zab D.fd 6),.string (zab D.fd 7),.string (zab D.fd 8),.string (zab D.fd 9),.string (zab D.fd 10),
 .string D.tx,
 .int .u8 1,.func (.func 89) #[] #[],.int .i64 (-1),.func (.func 91) #[] #[],.int .u8 2,.func (.func 92) #[] #[],.int .i64 (-1),.func (.func 91) #[] #[],.int .u8 6,.func (.func 93) #[] #[],.int .i64 5,.func (.func 91) #[] #[],
 .int .u8 7,.func (.func 94) #[] #[],.int .i64 (-1),.func (.func 91) #[] #[],.int .u8 10,.func (.func 95) #[] #[],.int .i64 3,.func (.func 96) #[] #[],
 .map (some T),.map (some S)]
def zaB (T S : Nat) (b : Nat) : Prop:=b ≠ T /\ b ≠ S
def zgx (D : zeA) (T S : Nat) (b : Nat) : Prop:=zaB T S b /\ ¬ D.X b
structure zbd (w0 : World) (D : zeA) (C T S n : Nat) (w : World) (MT MS : List (Int × Value)) : Prop where
 hf : zaf w0 D.vt D.vs D.vr D.vp D.f
 hC : w0.heap.size <= C
 hT : w0.heap.size <= T
 hS : w0.heap.size <= S
 CT : C ≠ T
 CS : C ≠ S
 TS : T ≠ S
 below : Below w0.heap.size w0 w
 blk : Blk w C 127 (D.cells T S)
 mt : zbc Tryz.prog 3 zY (@id Value) w T n MT
 ms : zbc Tryz.prog 3 zY (@id Value) w S n MS
 vt : ∀ p ∈ MT,ziE (zgx D T S) w p.2 (zax D.f D.cty D.fd p.1)
 vs : ∀ p ∈ MS,ziE (zgx D T S) w p.2 (zZ D.f D.fd D.tx p.1)
variable {w0 w w' : World} {D : zeA} {C T S n : Nat} {MT MS : List (Int × Value)}
theorem zkb {α β : Type} [DecidableEq α] {a : α} {b : β} : ∀ {M : List (α × β)},zbR a M = some b -> (a,b) ∈ M
 | p :: t,h=>by
  unfold zbR at h
  split at h
  ·rename_i e
   cases h
   rw [<- e];exact List.mem_cons_self ..
  ·exact List.mem_cons_of_mem _ (zkb h)
theorem zbd.up (h : zbd w0 D C T S n w MT MS) (hb : Below w.heap.size w w') : zbd w0 D C T S n w' MT MS where
 hf:=h.hf
 hC:=h.hC
 hT:=h.hT
 hS:=h.hS
 CT:=h.CT
 CS:=h.CS
 TS:=h.TS
 below:=h.below.trans (hb.mono h.below.size)
 blk:=h.blk.below hb h.blk.lt
 mt:=h.mt.below hb h.mt.lt
 ms:=h.ms.below hb h.ms.lt
 vt:=fun p hp=>(h.vt p hp).keep (zc.of_below hb _) fun _ _ x=>x
 vs:=fun p hp=>(h.vs p hp).keep (zc.of_below hb _) fun _ _ x=>x
theorem zbd.refer (h : zbd w0 D C T S n w MT MS) : zaf w D.vt D.vs D.vr D.vp D.f:=h.hf.stays (zo.of h.below)
theorem zbd.cell (h : zbd w0 D C T S n w MT MS) (i : Nat) : w.cell? ⟨C,i,none⟩ = (D.cells T S)[i]?:=h.blk.cell i
theorem zaT {w w' : World} {b : Nat} (h : w.grownBy w' (some b)) (i : Nat) (v : Value) : w.grownBy (w'.setCell ⟨b,i,none⟩ v) (some b):=by
 refine ⟨h.os,h.tape,h.output,by simpa using h.size,fun j hj hne=>?_⟩;rw [Below.heap_setCell _ _ _ _ (by intro e; exact hne (by simp [e]))];exact h.block j hj hne
theorem zc.two {P : Nat -> Prop} {w w7 w8 w9 : World} {T R : Nat} (hb : Below w.heap.size w w7) (hg8 : w7.grownBy w8 (some T)) (hg9 : w8.grownBy w9 (some R)) (hT : ¬ P T) (hR : w.heap.size <= R) : zc P w w9:=
 ⟨Nat.le_trans hb.size (Nat.le_trans hg8.size hg9.size),fun b hlt hp=>by
  rw [hg9.block b (Nat.lt_of_lt_of_le hlt (Nat.le_trans hb.size hg8.size)) (by intro e; injection e with e; omega),hg8.block b (Nat.lt_of_lt_of_le hlt hb.size) (by intro e; injection e with e; subst e; exact hT hp)]
  exact (zc.of_below hb P).block b hlt hp⟩
theorem zc.tail {P : Nat -> Prop} {w7 w8 w9 : World} {T R : Nat} (hg8 : w7.grownBy w8 (some T)) (hg9 : w8.grownBy w9 (some R)) (hT : ¬ P T) (hR : ¬ P R) : zc P w7 w9:=
 (zc.of_grown hg8 fun b hb=>by intro e; injection e with e; subst e; exact hT hb).trans (zc.of_grown hg9 fun b hb=>by intro e; injection e with e; subst e; exact hR hb)
theorem zbd.finT (h : zbd w0 D C T S n w MT MS) {w7 w8 w9 : World} {R : Nat} {a : Int} {v : Value} {Q : Nat -> Prop} (hb : Below w.heap.size w w7) (hm : zbc Tryz.prog 3 zY (@id Value) w8 T (n + 1) ((a,v) :: MT)) (hg8 : w7.grownBy w8 (some T))
  (hg9 : w8.grownBy w9 (some R)) (hR : w.heap.size <= R) (hv : ziE Q w7 v (zax D.f D.cty D.fd a)) (hQ : ∀ b,Q b -> zgx D T S b /\ b ≠ R) :
  zbd w0 D C T S (n + 1) w9 ((a,v) :: MT) MS /\ ziE (zgx D T S) w9 v (zax D.f D.cty D.fd a) /\ zc (zaB T S) w w9:=by
 have hk : zc (zaB T S) w w9:=zc.two hb hg8 hg9 (fun x=>x.1 rfl) hR;have hkf : zc (zgx D T S) w w9:=hk.weaken fun _ x=>x.1;have hRT : T ≠ R:=by have:=h.mt.lt; omega
 have hRS : S ≠ R:=by have:=h.ms.lt; omega
 have hRC : C ≠ R:=by have:=h.blk.lt; omega
 have hkq : zc Q w7 w9:=zc.tail hg8 hg9 (fun x=>(hQ _ x).1.1.1 rfl) (fun x=>(hQ _ x).2 rfl);have hv9 : ziE (zgx D T S) w9 v (zax D.f D.cty D.fd a):=hv.keep hkq fun b _ x=>(hQ b x).1;refine ⟨⟨h.hf,h.hC,h.hT,h.hS,h.CT,h.CS,h.TS,?_,?_,?_,?_,?_,?_⟩,hv9,hk⟩
 ·have h7 : Below w0.heap.size w0 w7:=h.below.trans (hb.mono h.below.size)
  have h8 : Below w0.heap.size w0 w8:=h7.grown hg8 h7.size (fun j e=>by injection e with e; have:=h.hT; omega);exact h8.grown hg9 h8.size (fun j e=>by injection e with e; have:=h.below.size; omega)
 ·exact ((h.blk.below hb h.blk.lt).grown hg8 (by intro e; injection e with e; exact h.CT e)).grown hg9 (by intro e; injection e with e; exact hRC e)
 ·exact hm.kept hg9 (by intro e; injection e with e; exact hRT e)
 ·exact (((h.ms.below hb h.ms.lt).kept hg8 (by intro e; injection e with e; exact h.TS e.symm)).kept hg9 (by intro e; injection e with e; exact hRS e)).mono (Nat.le_succ _)
 ·intro p hp
  rcases List.mem_cons.1 hp with rfl | hp
  ·exact hv9
  ·exact (h.vt p hp).keep hkf fun _ _ x=>x
 ·exact fun p hp=>(h.vs p hp).keep hkf fun _ _ x=>x
theorem zbd.finS (h : zbd w0 D C T S n w MT MS) {w7 w8 w9 : World} {R : Nat} {a : Int} {v : Value} {Q : Nat -> Prop} (hb : Below w.heap.size w w7) (hm : zbc Tryz.prog 3 zY (@id Value) w8 S (n + 1) ((a,v) :: MS)) (hg8 : w7.grownBy w8 (some S))
  (hg9 : w8.grownBy w9 (some R)) (hR : w.heap.size <= R) (hv : ziE Q w7 v (zZ D.f D.fd D.tx a)) (hQ : ∀ b,Q b -> zgx D T S b /\ b ≠ R) :
  zbd w0 D C T S (n + 1) w9 MT ((a,v) :: MS) /\ ziE (zgx D T S) w9 v (zZ D.f D.fd D.tx a) /\ zc (zaB T S) w w9:=by
 have hk : zc (zaB T S) w w9:=zc.two hb hg8 hg9 (fun x=>x.2 rfl) hR;have hkf : zc (zgx D T S) w w9:=hk.weaken fun _ x=>x.1;have hRT : T ≠ R:=by have:=h.mt.lt; omega
 have hRS : S ≠ R:=by have:=h.ms.lt; omega
 have hRC : C ≠ R:=by have:=h.blk.lt; omega
 have hkq : zc Q w7 w9:=zc.tail hg8 hg9 (fun x=>(hQ _ x).1.1.2 rfl) (fun x=>(hQ _ x).2 rfl);have hv9 : ziE (zgx D T S) w9 v (zZ D.f D.fd D.tx a):=hv.keep hkq fun b _ x=>(hQ b x).1;refine ⟨⟨h.hf,h.hC,h.hT,h.hS,h.CT,h.CS,h.TS,?_,?_,?_,?_,?_,?_⟩,hv9,hk⟩
 ·have h7 : Below w0.heap.size w0 w7:=h.below.trans (hb.mono h.below.size)
  have h8 : Below w0.heap.size w0 w8:=h7.grown hg8 h7.size (fun j e=>by injection e with e; have:=h.hS; omega);exact h8.grown hg9 h8.size (fun j e=>by injection e with e; have:=h.below.size; omega)
 ·exact ((h.blk.below hb h.blk.lt).grown hg8 (by intro e; injection e with e; exact h.CS e)).grown hg9 (by intro e; injection e with e; exact hRC e)
 ·exact (((h.mt.below hb h.mt.lt).kept hg8 (by intro e; injection e with e; exact h.TS e)).kept hg9 (by intro e; injection e with e; exact hRT e)).mono (Nat.le_succ _)
 ·exact hm.kept hg9 (by intro e; injection e with e; exact hRS e)
 ·exact fun p hp=>(h.vt p hp).keep hkf fun _ _ x=>x
 ·intro p hp
  rcases List.mem_cons.1 hp with rfl | hp
  ·exact hv9
  ·exact (h.vs p hp).keep hkf fun _ _ x=>x
end
section
open Go.RowKit Go.Maps
structure zkr (D : zeA) : Prop where
 fd : zpI D.fd
 t : ∀ id,(zas D.f id).1.codes.length <= 1000000 /\ (zas D.f id).1.name.size <= 1000
 s : ∀ id,(zn D.f id).1.others.length <= 1000000 /\ (zn D.f id).1.pre.size <= 1000 /\ (zn D.f id).1.name.size <= 1000 /\ (zn D.f id).1.suffix.size <= 1000
theorem ziE.form {P : Nat -> Prop} {w : World} {v : Value} {o : Option (List zP)} (h : ziE P w v o) : ∃ A m c b,v = .agg #[.slice A m c,.bool b] /\ b = o.isSome:=by
 rcases h with ⟨rfl,rfl⟩ | ⟨ns,nv,rfl,rfl,A,c,rfl,_⟩
 ·exact ⟨none,0,0,false,rfl,rfl⟩
 ·exact ⟨A,_,c,true,rfl,rfl⟩
theorem zfu.verd {o : Option (List zP)} {B : Nat} {e : Ending} {w' : World} (h : zfu o B e w') : ∃ v,e = .returned v /\ ziE (fun b=>B <= b) w' v o:=by
 rcases h with ⟨h1,h2⟩ | ⟨ns,nv,h1,h2,h3⟩
 ·exact ⟨_,h2,.inl ⟨h1,rfl⟩⟩
 ·exact ⟨_,h2,.inr ⟨ns,nv,h1,rfl,h3.notesP⟩⟩
variable {w0 w : World} {D : zeA} {C T S n : Nat} {MT MS : List (Int × Value)}
theorem zbd.newer (h : zbd w0 D C T S n w MT MS) {b : Nat} (hb : w.heap.size <= b) : zaB T S b:=
 ⟨by have:=h.mt.lt; omega,by have:=h.ms.lt; omega⟩
theorem zmo (h : zbd w0 D C T S n w MT MS) (ok : zkr D) (a : Int) (ha : zam a) (hn : n < 1000000) (hX : ∀ b,w.heap.size <= b -> ¬ D.X b) : Calls Tryz.prog 54 #[.pointer (some ⟨C,0,none⟩),.int .i64 a] w fun e w'=>
  ∃ v MT',e = .returned v /\ ziE (zgx D T S) w' v (zax D.f D.cty D.fd a) /\ zbd w0 D C T S (n + 1) w' MT' MS /\ zc (zaB T S) w w':=by
 have hX':=Hd hX;clear hX;have hb1 : Below w.heap.size w (w.alloc (.cells #[.slice none 0 0,.bool false] 130)):=(Below.refl _ _).alloc (lQ _) _;have kR:=Hd (Blk.new w 130 #[.slice none 0 0,.bool false]);have h1:=Hd (h.up hb1);have hb1':=Hd hb1;have hlk:=h1.out.mt.look_ok zdf Tryz.underlying125 (zwr _) a (zaJ a ha);simp only [zY] at hlk;clear hb1;go_enter Tryz.func54,Tryz.ntmps54;go_upto_region 1 with fail;have c37 : (w.alloc (.cells #[.slice none 0 0,.bool false] 130)).cell? ⟨C,37,none⟩ = some (.map (some T)):=h1.out.cell 37;have lC:=h1.out.blk.lt;have hRl:=kR.out.lt;have h0:=Hd h;clear h;generalize w.alloc (.cells #[.slice none 0 0,.bool false] 130) = W at *;generalize hR : w.heap.size = R at *
 cases hg : zbR a MT with
 | some v=>
  have hv0:=Hd (h0.out.vt _ (zkb hg));obtain ⟨A,m,c,b,rfl,-⟩:=hv0.out.form;rw [hg] at hlk;simp only [orV,id_eq,Option.isSome_some] at hlk;clear hg;have r0:=kR.out.cell 0;have r1:=kR.out.cell 1;have f0:=kR.out.frozen 0;have f1:=kR.out.frozen 1;simp at r0 r1;go_wp2;have hend:=((hb1'.out.setCell (p:=⟨R,0,none⟩) (lQ _) (.slice A m c)).setCell (p:=⟨R,1,none⟩) (lQ _) (.bool b)).alloc (by simp; omega) (.cells #[.slice A m c,.bool b] 130);refine bodyPost_ret (results_cell_row (P:=Tryz.prog) Tryz.results54 _ _ _ _ _ _ _ rfl (((kR.out.set_ 0 _).set_ 1 _).alloc _) Tryz.underlying130 rfl (by kernel_rfl)) rfl ?_;refine ⟨_,rfl,hv0.out.keep (zc.of_below ?_ _) fun _ _ x=>x,⟨MT,?_⟩,zc.of_below ?_ _⟩
  ·rw [hR]; exact hend
  ·have h8:=h0.out.up (by rw [hR]; exact hend)
   exact { h8 with mt:=h8.mt.mono (Nat.le_succ _),ms:=h8.ms.mono (Nat.le_succ _) }
  ·rw [hR]; exact hend
 | none=>
  rw [hg] at hlk;simp only [orV,Option.isSome_none] at hlk;clear hg;have hb2:=Hd (hb1'.out.alloc (by rw [<- hR]; exact hb1'.out.size) (.cells #[.slice none 0 0,.bool false] 130));have kV:=Hd (Blk.new W 130 #[.slice none 0 0,.bool false]);have kR2:=Hd (kR.out.alloc (.cells #[.slice none 0 0,.bool false] 130));have h2:=Hd (h1.out.up ((Below.refl _ _).alloc (lQ _) (.cells #[.slice none 0 0,.bool false] 130)));go_upto_region 4 with fail;clear hlk c37 lC kR h1 hb1';generalize W.alloc (.cells #[.slice none 0 0,.bool false] 130) = W2 at *;generalize hV : W.heap.size = V at *;have c0 : W2.cell? ⟨C,0,none⟩ = some D.vt:=h2.out.cell 0;have c1 : W2.cell? ⟨C,1,none⟩ = some D.vs:=h2.out.cell 1;have c2 : W2.cell? ⟨C,2,none⟩ = some D.vr:=h2.out.cell 2;have c3 : W2.cell? ⟨C,3,none⟩ = some D.vp:=h2.out.cell 3;have lC:=h2.out.blk.lt;have htown:=Hd (zwf D.vt D.vs D.vr D.vp D.f a W2 h2.out.refer (ok.t a).1);obtain ⟨⟨tA,tn,tc,e1⟩,⟨sA,sn,sc,e2⟩,⟨rA,rn,rc,e3⟩,⟨pA,pn,pc,e4⟩⟩:=h2.out.refer.forms;rw [e1,e2,e3,e4] at htown;rw [e1] at c0;rw [e2] at c1;rw [e3] at c2;rw [e4] at c3;clear e1 e2 e3 e4;have hRV : R < V:=hRl;go_wp2_with fail;refine htown.out.mono ?_;rintro e w3 ⟨cv,rfl,htx,hb3⟩;have hvp : Hid (zax D.f D.cty D.fd a = if (zas D.f a).1.country = D.cty then zI D.fd (zaj (zas D.f a).1) else none):=Hd rfl;have hname:=(ok.t a).2;obtain ⟨cA,cn,cc,rfl⟩:=htx.form;have h3:=Hd (h2.out.up hb3);have kV3:=Hd (kV.out.below hb3 kV.out.lt);have kR3:=Hd (kR2.out.below hb3 kR2.out.lt);have hb4:=Hd (hb2.out.trans (hb3.mono (by rw [<- hR]; exact hb2.out.size)));clear htx htown hb3 c0 c1 c2 c3 lC h2 kV kR2 hb2;generalize zas D.f a = tt at *;obtain ⟨⟨x0,x1,x2,x3,x4⟩,xb⟩:=tt;unfold zcB;simp only at hvp hname ⊢;have hb5:=Hd (hb4.out.alloc (by rw [<- hR]; exact hb4.out.size) (.cells #[.int .i64 x0,.int .u8 x1,.string x2,.string x3,.slice cA cn cc] 79));have k7:=Hd (Blk.new w3 79 #[.int .i64 x0,.int .u8 x1,.string x2,.string x3,.slice cA cn cc]);have kV5:=Hd (kV3.out.alloc (.cells #[.int .i64 x0,.int .u8 x1,.string x2,.string x3,.slice cA cn cc] 79));have kR5:=Hd (kR3.out.alloc (.cells #[.int .i64 x0,.int .u8 x1,.string x2,.string x3,.slice cA cn cc] 79));have h5:=Hd (h3.out.up ((Below.refl _ _).alloc (lQ _) (.cells #[.int .i64 x0,.int .u8 x1,.string x2,.string x3,.slice cA cn cc] 79)));go_upto_region 5 with fail;have hV7 : V < w3.heap.size:=kV3.out.lt;clear hb4 kV3 kR3 h3;generalize w3.alloc (.cells #[.int .i64 x0,.int .u8 x1,.string x2,.string x3,.slice cA cn cc] 79) = W5 at *;generalize hX : w3.heap.size = X at *;have r1:=fun (u : Ups W5)=>(Blk.ups k7.out u).cell 1;have c4 : ∀ (u : Ups W5),u.wld.cell? ⟨C,4,none⟩ = some (.int .u8 D.cty):=fun u=>(h5.out.up u.up).cell 4;simp at r1;refine zC (by kernel_rfl) (by kernel_rfl) ?_
  repeat (go_big_quiet_step (fail))
  refine wpQuiet_nil ?_;rintro _ ⟨u,rfl⟩;have h6:=Hd (h5.out.up u.up);have k76:=Hd (k7.out.ups u);have kV6:=Hd (kV5.out.ups u);have kR6:=Hd (kR5.out.ups u);have hb6:=Hd (hb5.out.trans (u.up.mono (by rw [<- hR]; exact hb5.out.size)));clear r1 c4 h5 k7 kV5 kR5 hb5;generalize u.wld = W6 at *;by_cases hcc : x1 = D.cty
  ·rw [if_pos hcc] at hvp
   have e1 : (x1 == D.cty) = true:=by simp [hcc]
   clear hcc;have hrows:=Hd (zrk W6);go_wp2_with fail;refine hrows.out.mono ?_;rintro e w7 ⟨rfl,hb7⟩;have h7:=Hd (h6.out.up hb7);have k77:=Hd (k76.out.below hb7 k76.out.lt);have kV7:=Hd (kV6.out.below hb7 kV6.out.lt);have kR7:=Hd (kR6.out.below hb7 kR6.out.lt);have hb8:=Hd ((hb6.out.trans (hb7.mono (by rw [<- hR]; exact hb6.out.size))).alloc (by rw [<- hR]; exact Nat.le_trans hb6.out.size hb7.size) (.cells #[.int .u8 8,.func (.func 152) #[] #[],.int .i64 6,.func (.func 153) #[] #[],.int .u8 9,.func (.func 154) #[] #[],.int .i64 1,.func (.func 91) #[] #[]] 166));have kQ:=Hd (Blk.new w7 166 #[.int .u8 8,.func (.func 152) #[] #[],.int .i64 6,.func (.func 153) #[] #[],.int .u8 9,.func (.func 154) #[] #[],.int .i64 1,.func (.func 91) #[] #[]]);have k78:=Hd (k77.out.alloc (.cells #[.int .u8 8,.func (.func 152) #[] #[],.int .i64 6,.func (.func 153) #[] #[],.int .u8 9,.func (.func 154) #[] #[],.int .i64 1,.func (.func 91) #[] #[]] 166));have kV8:=Hd (kV7.out.alloc (.cells #[.int .u8 8,.func (.func 152) #[] #[],.int .i64 6,.func (.func 153) #[] #[],.int .u8 9,.func (.func 154) #[] #[],.int .i64 1,.func (.func 91) #[] #[]] 166));have kR8:=Hd (kR7.out.alloc (.cells #[.int .u8 8,.func (.func 152) #[] #[],.int .i64 6,.func (.func 153) #[] #[],.int .u8 9,.func (.func 154) #[] #[],.int .i64 1,.func (.func 91) #[] #[]] 166));have h8:=Hd (h7.out.up ((Below.refl _ _).alloc (lQ _) (.cells #[.int .u8 8,.func (.func 152) #[] #[],.int .i64 6,.func (.func 153) #[] #[],.int .u8 9,.func (.func 154) #[] #[],.int .i64 1,.func (.func 91) #[] #[]] 166)));clear h7 k77 kV7 kR7 hb7 hrows hb6 h6 k76 kV6 kR6;go_upto_region 7 with fail;generalize w7.alloc (.cells #[.int .u8 8,.func (.func 152) #[] #[],.int .i64 6,.func (.func 153) #[] #[],.int .u8 9,.func (.func 154) #[] #[],.int .i64 1,.func (.func 91) #[] #[]] 166) = W8 at *;generalize hK : w7.heap.size = K at *;refine zL 4 (by kernel_rfl) (by kernel_rfl) ?_;simp only [tS,tZ,dS,dZ]
   go_big_quiet_step (fail)
   go_big_quiet_step (fail)
   refine zcv rfl 79 (.tmp 7) rfl X rfl 79 #[.int .i64 x0,.int .u8 x1,.string x2,.string x3,.slice cA cn cc] _ (by rintro _ ⟨u,rfl⟩; exact k78.out.ups u) Tryz.underlying79 rfl (by kernel_rfl) ?_;simp only [Act.put,sX,sS,sZ]
   go_big_quiet_step (fail)
   refine wpQuiet_nil ?_;rintro _ ⟨u8,rfl⟩;have h80:=h8.out.up u8.up;have kQ0:=kQ.out.ups u8;have kV80:=Hd (kV8.out.ups u8);have kR80:=Hd (kR8.out.ups u8);have hb80:=Hd (hb8.out.trans (u8.up.mono (by rw [<- hR]; exact hb8.out.size)))
   have hcmp:=Hd (ziK C D.fd K 0 2 (zaj ⟨x0,x1,x2,x3,x4⟩) (.slice none 0 0) (.slice none 0 0) (.slice none 0 0) (.slice none 0 0) (.slice cA cn cc) (.slice none 0 0) ⟨⟨x0,x1,x2,x3,x4⟩,zz.zero,zh.zero⟩ u8.wld
    ⟨_,_,_,rfl⟩ ⟨_,_,_,rfl⟩ ⟨_,_,_,rfl⟩ ⟨_,_,_,rfl⟩ ⟨_,_,_,rfl⟩ ⟨_,_,_,rfl⟩ h80.blk.lt (fun k hk=>by rw [h80.blk.cell]; match k,hk with | 0,_=>rfl | 1,_=>rfl | 2,_=>rfl | 3,_=>rfl | 4,_=>rfl | 5,_=>rfl | 6,_=>rfl | 7,_=>rfl | 8,_=>rfl | 9,_=>rfl | 10,_=>rfl)
    kQ0.lt (fun i hi=>by
     match i,hi with
     | 0,_=>exact ⟨kQ0.cell 0,kQ0.cell 1,kQ0.cell 2,kQ0.cell 3⟩
     | 1,_=>exact ⟨kQ0.cell 4,kQ0.cell 5,kQ0.cell 6,kQ0.cell 7⟩) (by simp [zaj])
    (znN (r:=⟨⟨x0,x1,x2,x3,x4⟩,zz.zero,zh.zero⟩) ⟨_,_,_,rfl⟩ ⟨_,_,_,rfl⟩ ⟨_,_,_,rfl⟩ ⟨_,_,_,rfl⟩ ⟨_,_,_,rfl⟩ ⟨_,_,_,rfl⟩ ok.fd hname))
   unfold zfF zz.zero zh.zero at hcmp;simp only [zaj,List.length_cons,List.length_nil,Nat.zero_add,Nat.reduceAdd] at hcmp hvp;have hBV : Hid (V < u8.wld.heap.size /\ R < u8.wld.heap.size /\ T < u8.wld.heap.size /\ S < u8.wld.heap.size):=Hd ⟨kV80.out.lt,kR80.out.lt,h80.mt.lt,h80.ms.lt⟩;clear h8 kQ k78 kV8 kR8 hb8 h80 kQ0;generalize u8.wld = WB at *;go_wp2_with fail;refine hcmp.out.mono ?_;rintro e wC ⟨hverd,hbC⟩;obtain ⟨v,rfl,hv⟩:=hverd.verd;obtain ⟨vA,vm,vc,vb,rfl,-⟩:=hv.form;rw [<- hvp.out] at hv;have hkV:=kV80.out.below hbC kV80.out.lt;have hkR:=kR80.out.below hbC kR80.out.lt;have r0:=hkV.cell 0;have r1:=hkV.cell 1;have f0:=hkV.frozen 0;have f1:=hkV.frozen 1;have lV:=hkV.lt;simp at r0 r1;have hRV0 : R <= V:=Nat.le_of_lt hRV;have hb9:=Hd (((hb80.out.trans (hbC.mono (by rw [<- hR]; exact hb80.out.size))).setCell (p:=⟨V,0,none⟩) hRV0 (.slice vA vm vc)).setCell (p:=⟨V,1,none⟩) hRV0 (.bool vb));have kV9:=Hd ((hkV.set_ 0 (.slice vA vm vc)).set_ 1 (.bool vb));have kR9:=Hd ((hkR.far (p:=⟨V,0,none⟩) (by simp; omega) (.slice vA vm vc)).far (p:=⟨V,1,none⟩) (by simp; omega) (.bool vb));have hVQ : ¬ (WB.heap.size <= V):=by have:=hBV.out; omega
   have hv9:=Hd (hv.keep ((zc.set_ (P:=fun b=>WB.heap.size <= b) wC ⟨V,0,none⟩ (.slice vA vm vc) hVQ).trans (zc.set_ (P:=fun b=>WB.heap.size <= b) (wC.setCell ⟨V,0,none⟩ (.slice vA vm vc)) ⟨V,1,none⟩ (.bool vb) hVQ)) fun _ _ x=>x);have hQ : Hid (∀ b,WB.heap.size <= b -> zgx D T S b /\ b ≠ R):=Hd fun b hb=>by have:=hBV.out; exact ⟨⟨⟨by omega,by omega⟩,hX'.out b (by omega)⟩,by omega⟩
   have h9:=Hd (h0.out.up (by rw [hR]; exact hb9.out));clear hcmp hverd hv hbC hb80 kV80 kR80 hkV hkR hVQ;go_upto_region 8 with fail;clear r0 r1 f0 f1 lV;have hTR : T ≠ R /\ T ≠ V:=⟨by have:=h0.out.mt.lt; omega,by have:=h0.out.mt.lt; omega⟩;generalize (wC.setCell ⟨V,0,none⟩ (.slice vA vm vc)).setCell ⟨V,1,none⟩ (.bool vb) = W9 at *;have cT : ∀ (u : Ups W9),u.wld.cell? ⟨C,37,none⟩ = some (.map (some T)):=fun u=>(h9.out.up u.up).cell 37;have v0:=fun (u : Ups W9)=>(Blk.ups kV9.out u).cell 0;have v1:=fun (u : Ups W9)=>(Blk.ups kV9.out u).cell 1;simp at v0 v1;refine zL 6 (by kernel_rfl) (by kernel_rfl) ?_;simp only [tS,tZ,dS,dZ]
   repeat (go_big_quiet_step (fail))
   refine wpQuiet_nil ?_;rintro _ ⟨uX,rfl⟩;have hX1:=h9.out.up uX.up;have hbX:=Hd (hb9.out.trans (uX.up.mono (by rw [<- hR]; exact hb9.out.size)));have hvX:=Hd (hv9.out.keep (zc.of_below uX.up _) fun _ _ x=>x);have kVX:=kV9.out.ups uX;have kRX:=kR9.out.ups uX;obtain ⟨WY,hput,hmv,hgr⟩:=hX1.mt.put zdf Tryz.underlying125 (by unfold maxLen; omega) zbm a (.agg #[.slice vA vm vc,.bool vb]) (zaJ a ha);simp only [zY,id_eq] at hput;have kVY:=Hd ((hgr.block _ kVX.lt (by intro e; injection e with e; omega)).trans kVX);have kRY:=Hd ((hgr.block _ kRX.lt (by intro e; injection e with e; omega)).trans kRX);have hmv':=Hd hmv;have hgr':=Hd hgr;clear cT v0 v1 h9 kV9 kR9 hX1 hmv hgr kVX kRX hv9 hb9;generalize uX.wld = WX at *;go_upto_region 9 with fail;have r0:=Blk.cell kRY.out 0;have r1:=Blk.cell kRY.out 1;have f0:=Blk.frozen kRY.out 0;have f1:=Blk.frozen kRY.out 1;have y0:=Blk.cell kVY.out 0;have y1:=Blk.cell kVY.out 1;have lR:=Blk.lt kRY.out;have lV:=Blk.lt kVY.out;simp at r0 r1 y0 y1;go_wp2;refine bodyPost_ret (results_cell_row (P:=Tryz.prog) Tryz.results54 _ _ _ _ _ _ _ rfl ((Blk.set_ (Blk.set_ kRY.out 0 _) 1 _)) Tryz.underlying130 rfl (by kernel_rfl)) rfl ?_;obtain ⟨z1,z2,z3⟩:=h0.out.finT (by rw [hR]; exact hbX.out) hmv'.out hgr'.out (zaT (zaT (World.grownBy.refl WY (some R)) 0 (.slice vA vm vc)) 1 (.bool vb)) (by omega) hvX.out hQ.out
   first | exact ⟨_,rfl,z2,⟨_,z1⟩,z3⟩ | exact ⟨_,_,rfl,z2,z1,z3⟩
  ·rw [if_neg hcc] at hvp
   have e1 : (x1 == D.cty) = false:=by simp [hcc]
   clear hcc;go_upto_region 8 with fail;obtain ⟨vA,vm,vc,vb,hvq⟩ : ∃ (vA : Option Addr) (vm vc : Nat) (vb : Bool),vA = none /\ vm = 0 /\ vc = 0 /\ vb = false:=⟨none,0,0,false,rfl,rfl,rfl,rfl⟩;have h9:=h6;have kV9 : Hid (Blk W6 V 130 #[.slice vA vm vc,.bool vb]):=Hd (by obtain ⟨rfl,rfl,rfl,rfl⟩:=hvq; exact kV6.out);have kR9:=kR6;have hb9:=hb6;have hv9 : Hid (ziE (fun b=>W6.heap.size <= b) W6 (.agg #[.slice vA vm vc,.bool vb]) (zax D.f D.cty D.fd a)):=Hd (by obtain ⟨rfl,rfl,rfl,rfl⟩:=hvq; exact .inl ⟨hvp.out,rfl⟩)
   have hQ : Hid (∀ b,W6.heap.size <= b -> zgx D T S b /\ b ≠ R):=Hd fun b hb=>by
    have:=kR6.out.lt;have:=h6.out.mt.lt;have:=h6.out.ms.lt;exact ⟨⟨⟨by omega,by omega⟩,hX'.out b (by omega)⟩,by omega⟩
   have hTR : T ≠ R /\ T ≠ V:=⟨by have:=h0.out.mt.lt; omega,by have:=h0.out.mt.lt; omega⟩;clear h6 kV6 kR6 hb6 k76 hvq;generalize W6 = W9 at *;have cT : ∀ (u : Ups W9),u.wld.cell? ⟨C,37,none⟩ = some (.map (some T)):=fun u=>(h9.out.up u.up).cell 37;have v0:=fun (u : Ups W9)=>(Blk.ups kV9.out u).cell 0;have v1:=fun (u : Ups W9)=>(Blk.ups kV9.out u).cell 1;simp at v0 v1;refine zL 6 (by kernel_rfl) (by kernel_rfl) ?_;simp only [tS,tZ,dS,dZ]
   repeat (go_big_quiet_step (fail))
   refine wpQuiet_nil ?_;rintro _ ⟨uX,rfl⟩;have hX1:=h9.out.up uX.up;have hbX:=Hd (hb9.out.trans (uX.up.mono (by rw [<- hR]; exact hb9.out.size)));have hvX:=Hd (hv9.out.keep (zc.of_below uX.up _) fun _ _ x=>x);have kVX:=kV9.out.ups uX;have kRX:=kR9.out.ups uX;obtain ⟨WY,hput,hmv,hgr⟩:=hX1.mt.put zdf Tryz.underlying125 (by unfold maxLen; omega) zbm a (.agg #[.slice vA vm vc,.bool vb]) (zaJ a ha);simp only [zY,id_eq] at hput;have kVY:=Hd ((hgr.block _ kVX.lt (by intro e; injection e with e; omega)).trans kVX);have kRY:=Hd ((hgr.block _ kRX.lt (by intro e; injection e with e; omega)).trans kRX);have hmv':=Hd hmv;have hgr':=Hd hgr;clear cT v0 v1 h9 kV9 kR9 hX1 hmv hgr kVX kRX hv9 hb9;generalize uX.wld = WX at *;go_upto_region 9 with fail;have r0:=Blk.cell kRY.out 0;have r1:=Blk.cell kRY.out 1;have f0:=Blk.frozen kRY.out 0;have f1:=Blk.frozen kRY.out 1;have y0:=Blk.cell kVY.out 0;have y1:=Blk.cell kVY.out 1;have lR:=Blk.lt kRY.out;have lV:=Blk.lt kVY.out;simp at r0 r1 y0 y1;go_wp2;refine bodyPost_ret (results_cell_row (P:=Tryz.prog) Tryz.results54 _ _ _ _ _ _ _ rfl ((Blk.set_ (Blk.set_ kRY.out 0 _) 1 _)) Tryz.underlying130 rfl (by kernel_rfl)) rfl ?_;obtain ⟨z1,z2,z3⟩:=h0.out.finT (by rw [hR]; exact hbX.out) hmv'.out hgr'.out (zaT (zaT (World.grownBy.refl WY (some R)) 0 (.slice vA vm vc)) 1 (.bool vb)) (by omega) hvX.out hQ.out
   first | exact ⟨_,rfl,z2,⟨_,z1⟩,z3⟩ | exact ⟨_,_,rfl,z2,z1,z3⟩
end
end Go.Proofs.YtggimnndflkjkaaGreatDoor
