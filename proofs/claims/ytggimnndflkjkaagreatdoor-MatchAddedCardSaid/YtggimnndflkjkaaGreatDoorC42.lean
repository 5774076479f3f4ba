import Derived.Test.YtggimnndflkjkaaGreatDoorC01
import Derived.Test.YtggimnndflkjkaaGreatDoorC37
import Derived.Test.YtggimnndflkjkaaGreatDoorC38
set_option linter.all false
set_option maxRecDepth 100000
set_option maxHeartbeats 0
namespace Go.Proofs.YtggimnndflkjkaaGreatDoor
section
open Go.RowKit
theorem zsu {c d x1 x2 y1 : Nat} (h : zhT c d x1 x2 y1 = 0) : x2 = 0 /\ c = d:=by
 unfold zhT at h
 split at h <;> omega
theorem zms : ∀ (a b : List Nat),zde a b = 0 -> a = b
 | [],[],_=>rfl
 | [],_ :: _,h=>by simp [zde] at h
 | _ :: _,[],h=>by simp [zde] at h
 | c :: a,d :: b,h=>by
  rw [zgv] at h;unfold ziJ at h
  have h2 : zhT c d (zde a (d :: b)) (zde a b) (zde (c :: a) b) = 0:=by
   split at h <;> omega
  obtain ⟨e1,e2⟩:=zsu h2;rw [e2,zms a b e1]
theorem zxh {a b : ByteArray} (h : zbr a = zbr b) : a = b:=by
 unfold zbr at h
 have h2 : a.data.toList = b.data.toList:=by
  have hi : Function.Injective (fun x : UInt8=>x.toNat):=fun x y e=>UInt8.toNat_inj.1 e;exact (List.map_inj_right (fun x y e=>hi e)).1 h
 exact ByteArray.ext (Array.toList_inj.1 h2)
theorem zlS {a b : ByteArray} (h1 : (zaH a b).2 = true) (h2 : (zaH a b).1 = 0) : a = b:=by
 unfold zaH at h1 h2
 split at h1
 ·cases h1
 ·rename_i hs
  rw [if_neg hs] at h2;exact zxh (zms _ _ h2)
theorem zhm {a b : ByteArray} (h1 : (zaK a b).2 = true) (h2 : (zaK a b).1 = 0) : a = b:=by
 unfold zaK at h1 h2
 split at h1
 ·cases h1
 ·rename_i hs
  rw [if_neg hs] at h2
  split at h1
  ·rename_i hd
   rw [if_pos hd] at h2;exact zlS hd.1 (by simpa using h2)
  ·cases h1
theorem zlP {a b : ByteArray} (h1 : (zaq a b).2 = true) (h2 : (zaq a b).1 = 0) : a = b:=by
 unfold zaq at h1 h2
 split at h1
 ·rename_i hd
  rw [if_pos hd] at h2;cases h2
 ·cases h1
def zfp (v : Nat -> ByteArray) (k : Nat) : Option zP:=if (v k).size = 0 then none else some ⟨(k : Int),1,0⟩
theorem zfa (fd : List ByteArray) (v : Nat -> ByteArray) : ∀ (l : List zhO),(∀ r ∈ l,zab fd r.kind = v r.kind /\ r.file = v r.kind) -> zI fd l = some (l.filterMap fun r=>zfp v r.kind)
 | [],_=>rfl
 | r :: t,h=>by
  have hr:=h r (List.mem_cons_self ..);have ih:=zfa fd v t fun x hx=>h x (List.mem_cons_of_mem _ hx)
  have hs : zgn fd r = some (zfp v r.kind):=by
   unfold zgn zfp;rw [hr.1,hr.2];by_cases h0 : (v r.kind).size = 0
   ·rw [if_pos h0,if_pos h0,if_pos h0]
   ·rw [if_neg h0,if_pos rfl,if_neg h0]
  rw [zI,List.filterMap_cons,hs]
  cases hn : zfp v r.kind with
  | none=>simp only; exact ih
  | some n=>simp only; rw [ih]; rfl
theorem zlh (v : Nat -> ByteArray) : ∀ k,(zG v k).map (fun q=>(⟨q.kind,1,0⟩ : zP)) = ((List.range k).map (· + 1)).filterMap (zfp v)
 | 0=>rfl
 | k + 1=>by
  rw [zG,List.map_append,zlh v k,List.range_succ,List.map_append,List.filterMap_append];congr 1
  have e : ([k].map (· + 1)).filterMap (zfp v) = (zfp v (k + 1)).toList:=by
   rw [List.map_singleton,List.filterMap_cons,List.filterMap_nil];cases zfp v (k + 1) <;> rfl
  rw [e];unfold zfp;by_cases h0 : (v (k + 1)).size = 0
  ·rw [if_pos h0,if_pos h0]; rfl
  ·rw [if_neg h0,if_neg h0]; rfl
theorem zje (v : Nat -> ByteArray) : ∀ l : List Nat,zO (l.filterMap (zfp v)) = 0
 | []=>rfl
 | k :: l=>by
  have ih:=zje v l;rw [List.filterMap_cons]
  cases hn : zfp v k with
  | none=>exact ih
  | some n=>
   simp only;unfold zfp at hn
   split at hn
   ·cases hn
   ·simp only [Option.some.injEq] at hn
    subst hn;unfold zO at ih ⊢;rw [List.map_cons,List.sum_cons,ih];rfl
def zbs (v : Nat -> ByteArray) : List zP:=(zm v).map fun q=>⟨q.kind,1,0⟩
theorem zvx (f : zw) (p : zh) (hz : p.street = 0 -> (zX f p 3).size = 0 /\ (zX f p 4).size = 0 /\ (zX f p 5).size = 0) :
  zaU f (zcT f p) (zm (zX f p)) p = some (zbs (zX f p)):=by
 have hfd : ∀ j,1 <= j -> j <= 10 -> zab (zv (zm (zX f p))) j = zX f p j:=zdF (zX f p)
 have ha : zax f (zcT f p) (zv (zm (zX f p))) p.town = some ([8,9].filterMap (zfp (zX f p))):=by
  unfold zax;rw [if_pos (show (zas f p.town).1.country = zcT f p from rfl),zfa _ (zX f p)]
  ·rfl
  ·intro r hr
   simp only [zaj,List.mem_cons,List.not_mem_nil,or_false] at hr;rcases hr with rfl | rfl
   ·exact ⟨hfd 8 (by omega) (by omega),rfl⟩
   ·exact ⟨hfd 9 (by omega) (by omega),rfl⟩
 have hb : zap f (zv (zm (zX f p))) (zmn (.slice none 0 0) (.slice none 0 0) (.slice none 0 0) (.slice none 0 0) f (zcT f p) (zm (zX f p)) fun _=>False).tx p.street = some ([3,4,5].filterMap (zfp (zX f p))):=by
  unfold zap;by_cases h0 : p.street = 0
  ·obtain ⟨h3,h4,h5⟩:=hz h0
   rw [if_pos h0];simp [zfp,h3,h4,h5]
  ·rw [if_neg h0]
   unfold zZ;rw [zfa _ (zX f p)]
   ·simp only
    rw [if_neg]
    ·rfl
    ·intro h
     have:=zje (zX f p) [3,4,5];have h1:=h.1;have e : ((zF (zn f p.street).1).filterMap fun r=>zfp (zX f p) r.kind) = [3,4,5].filterMap (zfp (zX f p)):=rfl;rw [e,this] at h1;omega
   ·intro r hr
    simp only [zF,List.mem_cons,List.not_mem_nil,or_false] at hr;rcases hr with rfl | rfl | rfl
    ·exact ⟨hfd 3 (by omega) (by omega),rfl⟩
    ·exact ⟨hfd 4 (by omega) (by omega),rfl⟩
    ·exact ⟨hfd 5 (by omega) (by omega),rfl⟩
 have hd : zbu f (zv (zm (zX f p))) p = some ([1,2,6,7,10].filterMap (zfp (zX f p))):=by
  unfold zbu;rw [zfa _ (zX f p)]
  ·rfl
  ·intro r hr
   simp only [zQ,List.mem_cons,List.not_mem_nil,or_false] at hr;rcases hr with rfl | rfl | rfl | rfl | rfl
   ·exact ⟨hfd 1 (by omega) (by omega),rfl⟩
   ·exact ⟨hfd 2 (by omega) (by omega),rfl⟩
   ·exact ⟨hfd 6 (by omega) (by omega),rfl⟩
   ·exact ⟨hfd 7 (by omega) (by omega),rfl⟩
   ·exact ⟨hfd 10 (by omega) (by omega),rfl⟩
 have hap:=zry (zjI ha) (zhp hb) (zim hd)
 have hperm : (zbs (zX f p)).Perm ([8,9].filterMap (zfp (zX f p)) ++ [3,4,5].filterMap (zfp (zX f p)) ++ [1,2,6,7,10].filterMap (zfp (zX f p))):=by
  unfold zbs zm;rw [zlh,<- List.filterMap_append,<- List.filterMap_append];exact List.Perm.filterMap _ (by decide)
 have hsort : (zbs (zX f p)).Pairwise fun a b=>a.kind <= b.kind:=List.pairwise_map.2 ((ziV (zX f p) 10).imp fun h=>Int.le_of_lt h);unfold zaU zeb
 rw [show (zmn (.slice none 0 0) (.slice none 0 0) (.slice none 0 0) (.slice none 0 0) f (zcT f p) (zm (zX f p)) fun _=>False).f = f from rfl,
  show (zmn (.slice none 0 0) (.slice none 0 0) (.slice none 0 0) (.slice none 0 0) f (zcT f p) (zm (zX f p)) fun _=>False).cty = zcT f p from rfl,
  show (zmn (.slice none 0 0) (.slice none 0 0) (.slice none 0 0) (.slice none 0 0) f (zcT f p) (zm (zX f p)) fun _=>False).fd = zv (zm (zX f p)) from rfl,ha,hb,hd]
 simp only;rw [zsb hperm hsort hap]
theorem zoQ (v : Nat -> ByteArray) : zO (zbs v) = 0:=by
 unfold zbs zm;rw [zlh];exact zje v _
def zkw (r : zhO) : Prop:=(r.missing = -1 \/ 1 <= r.missing) /\ ∀ a b,(r.edits a b).2 = true -> (r.edits a b).1 = 0 -> a = b
theorem zfb (fd : List ByteArray) : ∀ (l : List zhO),(∀ r ∈ l,zeY r /\ zkw r) -> ∀ ns,zI fd l = some ns -> zO ns = 0 -> ∀ r ∈ l,zab fd r.kind = r.file
 | [],_,_,_,_,_,h=>by cases h
 | r :: t,hl,ns,h,h0,q,hq=>by
  have hr:=hl r (List.mem_cons_self ..);have ih:=zfb fd t fun x hx=>hl x (List.mem_cons_of_mem _ hx);rw [zI] at h
  cases hs : zgn fd r with
  | none=>rw [hs] at h; cases h
  | some o=>
   rw [hs] at h
   have key : (∃ ms,zI fd t = some ms /\ zO ms = 0) /\ zab fd r.kind = r.file:=by
    cases o with
    | none=>
     simp only at h;refine ⟨⟨ns,h,h0⟩,?_⟩;unfold zgn at hs
     split at hs
     ·rename_i hz
      split at hs
      ·rename_i hz2
       rw [zlt hz,zlt hz2]
      ·split at hs <;> cases hs
     ·split at hs
      ·cases hs
      ·split at hs <;> cases hs
    | some n=>
     simp only at h
     cases h2 : zI fd t with
     | none=>rw [h2] at h; cases h
     | some ms=>
      rw [h2] at h;simp only [Option.map_some,Option.some.injEq] at h;subst h;have hc:=zbD ms (zcf fd t (fun x hx=>(hl x (List.mem_cons_of_mem _ hx)).1) ms h2).1
      have hsum : n.cost + zO ms = 0:=by
       have e : zO (n :: ms) = n.cost + zO ms:=by unfold zO; rw [List.map_cons,List.sum_cons]
       rw [<- e]; exact h0
      unfold zgn at hs
      split at hs
      ·split at hs
       ·cases hs
       ·split at hs
        ·cases hs
        ·rename_i hm
         simp only [Option.some.injEq] at hs;subst hs;simp only at hsum;have:=hr.2.1;omega
      ·split at hs
       ·rename_i he
        simp only [Option.some.injEq] at hs;subst hs;simp only at hsum;exact ⟨⟨ms,rfl,by omega⟩,he⟩
       ·split at hs
        ·rename_i he
         simp only [Option.some.injEq] at hs;subst hs;simp only at hsum;have hce:=hr.1.2.2 _ _ he;exact ⟨⟨ms,rfl,by omega⟩,hr.2.2 _ _ he (by omega)⟩
        ·cases hs
   rcases List.mem_cons.1 hq with rfl | hq
   ·exact key.2
   ·obtain ⟨ms,h3,h4⟩:=key.1
    exact ih ms h3 h4 q hq
theorem zlO {k fn cf : Nat} {mi : Int} {x : ByteArray} (h : mi = -1 \/ 1 <= mi) : zkw ⟨k,fn,mi,cf,x,noP⟩:=⟨h,fun _ _ h=>by cases h⟩
theorem znO (t : zJ) : ∀ r ∈ zaj t,zeY r /\ zkw r:=by
 intro r hr;refine ⟨zhq t r hr,?_⟩;simp only [zaj,List.mem_cons,List.not_mem_nil,or_false] at hr;rcases hr with rfl | rfl
 ·exact ⟨.inr (by simp),fun _ _=>zhm⟩
 ·exact zlO (.inr (by omega))
theorem zlC (t : zz) : ∀ r ∈ zF t,zeY r /\ zkw r:=by
 intro r hr;refine ⟨zec t r hr,?_⟩;simp only [zF,List.mem_cons,List.not_mem_nil,or_false] at hr;rcases hr with rfl | rfl | rfl
 ·exact zlO (.inr (by omega))
 ·exact ⟨.inl rfl,fun _ _=>zhm⟩
 ·exact zlO (.inr (by omega))
theorem zmb (f : zw) (p : zh) : ∀ r ∈ zQ f p,zeY r /\ zkw r:=by
 intro r hr;refine ⟨zgG f p r hr,?_⟩;simp only [zQ,List.mem_cons,List.not_mem_nil,or_false] at hr;rcases hr with rfl | rfl | rfl | rfl | rfl
 ·exact zlO (.inl rfl)
 ·exact zlO (.inl rfl)
 ·exact zlO (.inr (by omega))
 ·exact zlO (.inl rfl)
 ·exact ⟨.inr (by simp),fun _ _=>zlP⟩
theorem zqz {f : zw} {c : Int} {ps : List zu} {q : zh} {ns : List zP} (h : zaU f c ps q = some ns) :
  ∃ a b d,zax f c (zv ps) q.town = some a /\ zap f (zv ps) (zad (zab (zv ps) 3) (zab (zv ps) 4) (zab (zv ps) 5)) q.street = some b /\ zbu f (zv ps) q = some d /\ ns = zlu (a ++ b ++ d):=by
 have e : zaU f c ps q = (match zax f c (zv ps) q.town,zap f (zv ps) (zad (zab (zv ps) 3) (zab (zv ps) 4) (zab (zv ps) 5)) q.street,zbu f (zv ps) q with
  | some a,some b,some d=>some (zlu (a ++ b ++ d))
  | _,_,_=>none):=rfl
 rw [e] at h
 cases h1 : zax f c (zv ps) q.town with
 | none=>rw [h1] at h; cases h
 | some a=>
  cases h2 : zap f (zv ps) (zad (zab (zv ps) 3) (zab (zv ps) 4) (zab (zv ps) 5)) q.street with
  | none=>rw [h1,h2] at h; cases h
  | some b=>
   cases h3 : zbu f (zv ps) q with
   | none=>rw [h1,h2,h3] at h; cases h
   | some d=>
    rw [h1,h2,h3] at h;simp only [Option.some.injEq] at h;exact ⟨a,b,d,rfl,rfl,rfl,h.symm⟩
theorem zmf {f : zw} {fd : List ByteArray} {tx : ByteArray} {id : Int} {ns : List zP} (h : zap f fd tx id = some ns) : zkq ns:=by
 unfold zap at h
 split at h
 ·simp only [Option.some.injEq] at h
  subst h;exact fun _ h=>by cases h
 ·exact (zdL h).1
theorem zhe (a b : List zP) : zO (a ++ b) = zO a + zO b:=by
 unfold zO;rw [List.map_append,List.sum_append]
theorem zqA {f : zw} {c : Int} {ps : List zu} {q : zh} {ns : List zP} {a b d : List zP} (h1 : zax f c (zv ps) q.town = some a) (h2 : zap f (zv ps) (zad (zab (zv ps) 3) (zab (zv ps) 4) (zab (zv ps) 5)) q.street = some b) (h3 : zbu f (zv ps) q = some d) (e : ns = zlu (a ++ b ++ d)) :
  zO ns = zO a + zO b + zO d /\ 0 <= zO a /\ 0 <= zO b /\ 0 <= zO d:=by
 subst e;rw [zlJ (zja _),zhe,zhe];exact ⟨rfl,(zbD _ (zdV h1).1).1,(zbD _ (zmf h2)).1,(zbD _ (zfU h3).1).1⟩
def zof (s : ByteArray) : Nat:=s.data.toList.foldl (fun n b=>n * 10 + (b.toNat - 48)) 0
theorem zjo : ∀ n : Fin 101,zof (zao (n.val : Nat)) = n.val:=by decide +kernel
theorem zmq {a b : Nat} (ha : a <= 100) (hb : b <= 100) (h : zao (a : Nat) = zao (b : Nat)) : a = b:=by
 have h1:=zjo ⟨a,by omega⟩;have h2:=zjo ⟨b,by omega⟩;simp only at h1 h2;rw [h,h2] at h1;exact h1.symm
theorem zfR {α : Type} {R : α -> α -> Prop} : ∀ {l : List α},l.Pairwise R -> ∀ {a b : α},a ∈ l -> b ∈ l -> ¬ R a b -> ¬ R b a -> a = b
 | [],_,_,_,h,_,_,_=>by cases h
 | x :: l,h,a,b,ha,hb,h1,h2=>by
  rw [List.pairwise_cons] at h;rcases List.mem_cons.1 ha with e1 | ha1
  ·rcases List.mem_cons.1 hb with e2 | hb1
   ·rw [e1,e2]
   ·exact absurd (e1 ▸ h.1 b hb1) h1
  ·rcases List.mem_cons.1 hb with e2 | hb1
   ·exact absurd (e2 ▸ h.1 a ha1) h2
   ·exact zfR h.2 ha1 hb1 h1 h2
theorem zxn (x : zi) {p q : zh} (hp : p ∈ (zb x).points) (hq : q ∈ (zb x).points) (h : zaC q = zaC p) : q = p:=
 zfR (zcP x (zaN x)) hq hp (fun hr=>hr.2.1 h) (fun hr=>hr.2.1 h.symm)
theorem zlg (f : zw) (p : zh) : zad (zab (zv (zm (zX f p))) 3) (zab (zv (zm (zX f p))) 4) (zab (zv (zm (zX f p))) 5) = (zn f p.street).1.text:=by
 rw [zdF _ 3 (by omega) (by omega),zdF _ 4 (by omega) (by omega),zdF _ 5 (by omega) (by omega)];rfl
theorem zgZ (x : zi) (t : Nat) (p : zh) (h : BasePt x t p) : ∃ a b : Nat,a <= 100 /\ b <= 100 /\ p.number = a /\ p.box = b:=by
 cases h with
 | street i k num seq letter unit hk hn hl hu hs=>exact ⟨num,0,by omega,by omega,rfl,rfl⟩
 | box i t bx seq ht hb hs=>exact ⟨0,bx,by omega,by omega,rfl,rfl⟩
theorem zin (x : zi) (t : Nat) (p : zh) (h : BasePt x t p) : (p.street = 0 /\ p.number = 0 /\ 1 <= p.box) \/ ∃ k,k < zau x /\ t = k % zK x /\ p.street = 50 - (k : Int) /\ 1 <= p.number:=by
 cases h with
 | street i k num seq letter unit hk hn hl hu hs=>exact .inr ⟨k,hk,rfl,rfl,by simp only; omega⟩
 | box i t bx seq ht hb hs=>exact .inl ⟨rfl,rfl,by simp only; omega⟩
theorem zvy (x : zi) (p q : zh) (hp : p ∈ (zb x).points) (hq : q ∈ (zb x).points) (ns : List zP) (h : zaU (zb x) (zcT (zb x) p) (zm (zX (zb x) p)) q = some ns) (h0 : zO ns <= 0) : q = p:=by
 obtain ⟨t,-,-,-,bp⟩:=zcx x p hp;obtain ⟨s,-,-,-,bq⟩:=zcx x q hq;have sp:=zcU x t p bp;have sq:=zcU x s q bq;obtain ⟨a,b,d,h1,h2,h3,e⟩:=zqz h;obtain ⟨t1,t2,t3,t4⟩:=zqA h1 h2 h3 e;rw [zlg] at h2;have h5:=zal x;have h7:=zah x;have hrd : ∀ j,1 <= j -> j <= 10 -> zab (zv (zm (zX (zb x) p))) j = zX (zb x) p j:=zdF _;have hpt:=zfb _ _ (zmb (zb x) q) d h3 (by omega);have g1:=hpt ⟨1,89,-1,91,zao q.number,noP⟩ (by simp [zQ]);have g2:=hpt ⟨2,92,-1,91,q.letter,noP⟩ (by simp [zQ]);have g6:=hpt ⟨6,93,5,91,q.unit,noP⟩ (by simp [zQ]);have g7:=hpt ⟨7,94,-1,91,zao q.box,noP⟩ (by simp [zQ]);simp only at g1 g2 g6 g7;rw [hrd _ (by omega) (by omega)] at g1 g2 g6 g7;change zao p.number = zao q.number at g1;change p.letter = q.letter at g2;change p.unit = q.unit at g6;change zao p.box = zao q.box at g7;obtain ⟨pn,pb,hpn,hpb,epn,epb⟩:=zgZ x t p bp;obtain ⟨qn,qb,hqn,hqb,eqn,eqb⟩:=zgZ x s q bq;rw [epn,eqn] at g1;rw [epb,eqb] at g7;have e1:=zmq hpn hqn g1;have e7:=zmq hpb hqb g7;have hT : (zas (zb x) p.town).1 = zbF x t:=by rw [sp.2.1,zdO x t sp.1]
 have hTq : (zas (zb x) q.town).1 = zbF x s:=by rw [sq.2.1,zdO x s sq.1]
 have hts : s = t:=by
  unfold zax at h1
  split at h1
  ·rename_i hc
   have htw:=zfb _ _ (znO _) a h1 (by omega);rw [hTq] at htw hc;have w8:=htw ⟨8,152,6,153,(zbF x s).name,zaK⟩ (by simp [zaj]);have w9:=htw ⟨9,154,1,91,(zbF x s).region,noP⟩ (by simp [zaj]);simp only at w8 w9;rw [hrd _ (by omega) (by omega)] at w8 w9;change (zas (zb x) p.town).1.name = _ at w8;change (zas (zb x) p.town).1.region = _ at w9;change _ = (zas (zb x) p.town).1.country at hc;rw [hT] at w8 w9 hc;by_cases hne : s = t
   ·exact hne
   ·exfalso
    refine (zlK x s t (by omega) (by omega) hne).2 ?_;unfold zJ.text;rw [hc,w8,w9]
  ·cases h1
 subst hts;have etown : q.town = p.town:=by rw [sp.2.1,sq.2.1]
 have estreet : q.street = p.street:=by
  rcases zin x s p bp with ⟨p1,p2,p3⟩ | ⟨k,hk,ek,p1,p2⟩
  ·rcases zin x s q bq with ⟨q1,q2,q3⟩ | ⟨k',hk',ek',q1,q2⟩
   ·rw [p1,q1]
   ·omega
  ·rcases zin x s q bq with ⟨q1,q2,q3⟩ | ⟨k',hk',ek',q1,q2⟩
   ·omega
   ·have hSp : (zn (zb x) p.street).1 = zac x k:=by rw [p1,zcH x k hk]
    have hSq : (zn (zb x) q.street).1 = zac x k':=by rw [q1,zcH x k' hk']
    by_cases hne : k' = k
    ·rw [p1,q1,hne]
    ·exfalso
     have hap:=(ziv x k k' (by omega) (by omega) (fun e=>hne e.symm)).2;have hlab : ((zac x k).town,(zac x k).text) ∈ zeI (zac x k):=List.mem_cons_self ..
     have htw : (zac x k').town = (zac x k).town:=by
      show ((10 + k' % zK x : Nat) : Int) = ((10 + k % zK x : Nat) : Int);rw [<- ek,<- ek']
     have hno:=hap _ hlab
     have halias : zhh (zb x) (zn (zb x) p.street).1.text q.street = false:=by
      unfold zhh;rw [hSp,hSq,Bool.or_eq_false_iff];refine ⟨decide_eq_false fun e=>hno ?_,zdg fun e=>hno ?_⟩
      ·rw [e,<- htw]; exact List.mem_cons_self ..
      ·rw [<- htw]; exact List.mem_cons_of_mem _ (List.mem_map.2 ⟨_,e,rfl⟩)
     unfold zap at h2;rw [if_neg (by omega)] at h2;unfold zZ at h2;rw [halias] at h2
     cases hcmp : zI (zv (zm (zX (zb x) p))) (zF (zn (zb x) q.street).1) with
     | none=>rw [hcmp] at h2; simp at h2
     | some ms=>
      rw [hcmp] at h2;simp at h2;subst h2;have hst:=zfb _ _ (zlC _) _ hcmp (by omega);rw [hSq] at hst;have w3:=hst ⟨3,155,1,91,(zac x k').pre,noP⟩ (by simp [zF]);have w4:=hst ⟨4,156,-1,153,(zac x k').name,zaK⟩ (by simp [zF]);have w5:=hst ⟨5,157,2,91,(zac x k').suffix,noP⟩ (by simp [zF]);simp only at w3 w4 w5;rw [hrd _ (by omega) (by omega)] at w3 w4 w5;change (zn (zb x) p.street).1.pre = _ at w3;change (zn (zb x) p.street).1.name = _ at w4;change (zn (zb x) p.street).1.suffix = _ at w5;rw [hSp] at w3 w4 w5;refine hno ?_;have et : (zac x k).text = (zac x k').text:=by unfold zz.text; rw [w3,w4,w5]
      rw [et,<- htw];exact List.mem_cons_self ..
 refine zxn x hp hq ?_;unfold zaC;rw [etown,estreet,epn,eqn,epb,eqb,e1,e7,g2,g6]
theorem zoP (x : zi) (p : zh) : zaU (zb x) (zcT (zb x) p) (zm (zX (zb x) p)) p = some (zbs (zX (zb x) p)):=by
 refine zvx _ _ fun h0=>?_;have e3 : zX (zb x) p 3 = (zn (zb x) p.street).1.pre:=rfl;have e4 : zX (zb x) p 4 = (zn (zb x) p.street).1.name:=rfl;have e5 : zX (zb x) p 5 = (zn (zb x) p.street).1.suffix:=rfl;rw [e3,e4,e5,h0,zeS];exact ⟨rfl,rfl,rfl⟩
theorem zhR (x : zi) (p : zh) (hp : p ∈ (zb x).points) : zaX (zb x) p.id = (p,true):=
 zfM _ hp (decide_eq_true rfl) fun b hb he=>by
  have e:=of_decide_eq_true he;exact zfR (zce x) hb hp (fun h=>h e) (fun h=>h e.symm)
theorem zyJ (x : zi) (p : zh) (hp : p ∈ (zb x).points) : ∃ rest,ziF (zb x) (zcT (zb x) p) (zm (zX (zb x) p)) = ⟨p.id,0,zbs (zX (zb x) p)⟩ :: rest /\ ∀ m ∈ rest,0 < m.cost:=by
 have hmean:=zoP x p
 have hin : (⟨p.id,0,zbs (zX (zb x) p)⟩ : zeC) ∈ zcq (zb x) (zcT (zb x) p) (zm (zX (zb x) p)) (zb x).points:=by
  unfold zcq;refine List.mem_filterMap.2 ⟨p,hp,?_⟩;unfold zhg;rw [hmean];simp [zoQ]
 have hall : ∀ m ∈ zcq (zb x) (zcT (zb x) p) (zm (zX (zb x) p)) (zb x).points,m.point ≠ p.id -> 0 < m.cost:=by
  intro m hm hne;unfold zcq at hm;obtain ⟨q,hq,hqm⟩:=List.mem_filterMap.1 hm;unfold zhg at hqm
  cases h1 : zaU (zb x) (zcT (zb x) p) (zm (zX (zb x) p)) q with
  | none=>rw [h1] at hqm; cases hqm
  | some ns=>
   rw [h1] at hqm;simp only [Option.map_some,Option.some.injEq] at hqm;subst hqm;simp only at hne ⊢;by_cases hc : zO ns <= 0
   ·exact absurd (by rw [zvy x p q hp hq ns h1 hc]) hne
   ·omega
 have hperm : (ziF (zb x) (zcT (zb x) p) (zm (zX (zb x) p))).Perm (zcq (zb x) (zcT (zb x) p) (zm (zX (zb x) p)) (zb x).points):=zfB leM _;have hsort : (ziF (zb x) (zcT (zb x) p) (zm (zX (zb x) p))).Pairwise fun a b=>leM a b = true:=zfg leM zvc zxN _;have hapart:=zgy (zb x) (zcT (zb x) p) (zm (zX (zb x) p)) _ (zce x);generalize ziF (zb x) (zcT (zb x) p) (zm (zX (zb x) p)) = l at *;generalize zcq (zb x) (zcT (zb x) p) (zm (zX (zb x) p)) (zb x).points = F at *
 cases l with
 | nil=>exact absurd (hperm.mem_iff.2 hin) (by simp)
 | cons m rest=>
  rw [List.pairwise_cons] at hsort;have hm:=hperm.mem_iff.1 (List.mem_cons_self (a:=m) (l:=rest));have hl:=hperm.mem_iff.2 hin
  have e : m = ⟨p.id,0,zbs (zX (zb x) p)⟩:=by
   rcases List.mem_cons.1 hl with e | hl
   ·exact e.symm
   ·have hle:=hsort.1 _ hl
    by_cases hid : m.point = p.id
    ·exact zky hapart hm hin hid
    ·have:=hall m hm hid
     unfold leM at hle;simp at hle;omega
  subst e;refine ⟨rest,rfl,fun n hn=>?_⟩;have hnd : (⟨p.id,0,zbs (zX (zb x) p)⟩ :: rest).Pairwise fun a b=>a.point ≠ b.point:=hperm.symm.pairwise hapart fun h e=>h e.symm;rw [List.pairwise_cons] at hnd;exact hall n (hperm.mem_iff.1 (List.mem_cons_of_mem _ hn)) fun e=>hnd.1 n hn e.symm
end
end Go.Proofs.YtggimnndflkjkaaGreatDoor
