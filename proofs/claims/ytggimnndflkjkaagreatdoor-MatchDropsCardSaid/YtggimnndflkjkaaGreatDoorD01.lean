import Derived.Test.YtggimnndflkjkaaGreatDoorC01
import Derived.Test.YtggimnndflkjkaaGreatDoorC41
import Derived.Test.YtggimnndflkjkaaGreatDoorC46
import Derived.Test.YtggimnndflkjkaaGreatDoorC47
set_option linter.all false
set_option maxRecDepth 100000
set_option maxHeartbeats 0
namespace Go.Proofs.YtggimnndflkjkaaGreatDoor
section
open Go.RowKit Go.Maps
def zbH (m : Nat) (v : Nat -> ByteArray) (k : Nat) : ByteArray:=if m.testBit k then ⟨#[]⟩ else v k
def zbZ (m : Nat) (v : Nat -> ByteArray) (k : Nat) : Bool:=m.testBit k && decide ((v k).size ≠ 0)
theorem zve (m : Nat) (v : Nat -> ByteArray) : ∀ k,zbV m (zG v k) = zG (zbH m v) k
 | 0=>rfl
 | k + 1=>by
  have ih:=zve m v k;unfold zbV at ih ⊢;rw [zG,zG,List.filter_append,ih];congr 1;unfold zbH;by_cases hb : m.testBit (k + 1) = true
  ·rw [if_pos hb,if_pos (show (⟨#[]⟩ : ByteArray).size = 0 from rfl)]
   split
   ·rfl
   ·simp [hb]
  ·rw [if_neg hb]
   split
   ·rfl
   ·simp [hb]
theorem zsZ (m : Nat) (v : Nat -> ByteArray) : zbV m (zm v) = zm (zbH m v):=zve m v 10
def zN (s : Int × Bool) (k : Int) : Int × Bool:=
 if k = 3 \/ k = 9 then (s.1 + 1,s.2) else if k = 5 then (s.1 + 2,s.2) else if k = 6 then (s.1 + 5,s.2) else if k = 8 then (s.1 + 6,s.2) else if k = 10 then (s.1 + 3,s.2) else (s.1,false)
def zgN (m : Nat) (s : Int × Bool) (p : zu) : Int × Bool:=if m.testBit p.kind.toNat then zN s p.kind else s
def zcK (m : Nat) (ps : List zu) : Int × Bool:=ps.foldl (zgN m) (0,true)
theorem zdH (m : Nat) (v : Nat -> ByteArray) (k : Nat) (s : Int × Bool) : (if (v k).size = 0 then [] else [(⟨(k : Nat),v k⟩ : zu)]).foldl (zgN m) s = if zbZ m v k then zN s (k : Nat) else s:=by
 unfold zbZ;by_cases hz : (v k).size = 0
 ·rw [if_pos hz]
  simp [hz]
 ·rw [if_neg hz]
  by_cases hb : m.testBit k = true
  ·simp [hz,hb,zgN]
  ·simp [hz,hb,zgN]
def wOf (b : Bool) (c : Int) : Int:=if b then c else 0
theorem zzt (b : Bool) (a c : Int) (z : Bool) : (if b = true then (a + c,z) else (a,z) : Int × Bool) = (a + wOf b c,z):=by
 cases b <;> simp [wOf]
theorem zzu (b : Bool) (a : Int) (z : Bool) : (if b = true then (a,false) else (a,z) : Int × Bool) = (a,z && !b):=by
 cases b <;> simp
theorem zok (m : Nat) (v : Nat -> ByteArray) : zcK m (zm v) = (wOf (zbZ m v 3) 1 + wOf (zbZ m v 5) 2 + wOf (zbZ m v 6) 5 + wOf (zbZ m v 8) 6 + wOf (zbZ m v 9) 1 + wOf (zbZ m v 10) 3,!(zbZ m v 1 || zbZ m v 2 || zbZ m v 4 || zbZ m v 7)):=by
 unfold zcK zm;simp only [zG,List.foldl_append,List.foldl_nil,List.nil_append];rw [zdH,zdH,zdH,zdH,zdH,zdH,zdH,zdH,zdH,zdH];generalize zbZ m v (0 + 1) = b1;have h1 : ∀ s : Int × Bool,zN s ((0 + 1 : Nat) : Int) = (s.1,false):=fun s=>by simp [zN]
 have h2 : ∀ s : Int × Bool,zN s ((1 + 1 : Nat) : Int) = (s.1,false):=fun s=>by simp [zN]
 have h3 : ∀ s : Int × Bool,zN s ((2 + 1 : Nat) : Int) = (s.1 + 1,s.2):=fun s=>by simp [zN]
 have h4 : ∀ s : Int × Bool,zN s ((3 + 1 : Nat) : Int) = (s.1,false):=fun s=>by simp [zN]
 have h5 : ∀ s : Int × Bool,zN s ((4 + 1 : Nat) : Int) = (s.1 + 2,s.2):=fun s=>by simp [zN]
 have h6 : ∀ s : Int × Bool,zN s ((5 + 1 : Nat) : Int) = (s.1 + 5,s.2):=fun s=>by simp [zN]
 have h7 : ∀ s : Int × Bool,zN s ((6 + 1 : Nat) : Int) = (s.1,false):=fun s=>by simp [zN]
 have h8 : ∀ s : Int × Bool,zN s ((7 + 1 : Nat) : Int) = (s.1 + 6,s.2):=fun s=>by simp [zN]
 have h9 : ∀ s : Int × Bool,zN s ((8 + 1 : Nat) : Int) = (s.1 + 1,s.2):=fun s=>by simp [zN]
 have h10 : ∀ s : Int × Bool,zN s ((9 + 1 : Nat) : Int) = (s.1 + 3,s.2):=fun s=>by simp [zN]
 rw [h1,h2,h3,h4,h5,h6,h7,h8,h9,h10];simp only [zzt,zzu,Nat.reduceAdd];generalize zbZ m v 2 = b2;generalize zbZ m v 4 = b4;generalize zbZ m v 7 = b7;rw [Prod.mk.injEq];refine ⟨by rw [Int.zero_add],?_⟩;cases b1 <;> cases b2 <;> cases b4 <;> cases b7 <;> rfl
theorem zlz (m : Nat) (v : Nat -> ByteArray) (r : zhO) : zpk (zbH m v) v r = if zbZ m v r.kind then (if r.missing = -1 then none else some r.missing) else some 0:=by
 unfold zpk zbH zbZ;by_cases hb : m.testBit r.kind = true
 ·rw [if_pos hb,if_pos (show (⟨#[]⟩ : ByteArray).size = 0 from rfl),hb,Bool.true_and]
  by_cases hz : (v r.kind).size = 0
  ·rw [if_pos hz,decide_eq_false (fun h=>h hz)]; rfl
  ·rw [if_neg hz,decide_eq_true hz]; rfl
 ·rw [if_neg hb]
  rw [Bool.not_eq_true] at hb;rw [hb,Bool.false_and,if_neg Bool.false_ne_true];by_cases hz : (v r.kind).size = 0
  ·rw [if_pos hz,if_pos hz]
  ·rw [if_neg hz,if_pos rfl]
theorem zwe (m : Nat) (v : Nat -> ByteArray) (t : zJ) : zmP (zbH m v) v (zaj t) = some (wOf (zbZ m v 8) 6 + wOf (zbZ m v 9) 1):=by
 simp only [zaj,zmP,zlz];cases zbZ m v 8 <;> cases zbZ m v 9 <;> rfl
theorem zlA (m : Nat) (v : Nat -> ByteArray) (t : zz) : zmP (zbH m v) v (zF t) = if zbZ m v 4 then none else some (wOf (zbZ m v 3) 1 + wOf (zbZ m v 5) 2):=by
 simp only [zF,zmP,zlz];cases zbZ m v 3 <;> cases zbZ m v 4 <;> cases zbZ m v 5 <;> rfl
theorem zto (m : Nat) (v : Nat -> ByteArray) (f : zw) (p : zh) : zmP (zbH m v) v (zQ f p) = if zbZ m v 1 || zbZ m v 2 || zbZ m v 7 then none else some (wOf (zbZ m v 6) 5 + wOf (zbZ m v 10) 3):=by
 simp only [zQ,zmP,zlz];cases zbZ m v 1 <;> cases zbZ m v 2 <;> cases zbZ m v 6 <;> cases zbZ m v 7 <;> cases zbZ m v 10 <;> rfl
theorem zud : ∀ i : Fin 7,∀ pre suf d3 d4 d5 : Bool,((d3 && pre) || d4 || (d5 && suf)) = true ->
  (decide (zad (if d3 then ⟨#[]⟩ else if pre then zlv else ⟨#[]⟩) (if d4 then ⟨#[]⟩ else zoG ++ zaE i.val) (if d5 then ⟨#[]⟩ else if suf then zhx else ⟨#[]⟩) = zad (if pre then zlv else ⟨#[]⟩) (zoG ++ zaE i.val) (if suf then zhx else ⟨#[]⟩)) ||
   zcg (zad (if d3 then ⟨#[]⟩ else if pre then zlv else ⟨#[]⟩) (if d4 then ⟨#[]⟩ else zoG ++ zaE i.val) (if d5 then ⟨#[]⟩ else if suf then zhx else ⟨#[]⟩)) (if suf then [zoT ++ zaE i.val] else [])) = false:=by decide +kernel
theorem zsl (x : zi) (m k : Nat) (hk : k < zau x) (p : zh) (hp : p.street = 50 - (k : Int)) (hg : (zbZ m (zX (zb x) p) 3 || zbZ m (zX (zb x) p) 4 || zbZ m (zX (zb x) p) 5) = true) :
  zhh (zb x) (zad (zbH m (zX (zb x) p) 3) (zbH m (zX (zb x) p) 4) (zbH m (zX (zb x) p) 5)) p.street = false:=by
 have hS : (zn (zb x) p.street).1 = zac x k:=by rw [hp,zcH x k hk]
 have e3 : zX (zb x) p 3 = if zaW x k then zlv else ⟨#[]⟩:=by
  show (zn (zb x) p.street).1.pre = _;rw [hS]; rfl
 have e4 : zX (zb x) p 4 = zoG ++ zaE k:=by
  show (zn (zb x) p.street).1.name = _;rw [hS]; rfl
 have e5 : zX (zb x) p 5 = if zbp x k then zhx else ⟨#[]⟩:=by
  show (zn (zb x) p.street).1.suffix = _;rw [hS]; rfl
 have h7:=zah x;have ht:=zud ⟨k,by omega⟩ (zaW x k) (zbp x k) (m.testBit 3) (m.testBit 4) (m.testBit 5);unfold zhh;rw [hS];show (decide (_ = zad (if zaW x k then zlv else ⟨#[]⟩) (zoG ++ zaE k) (if zbp x k then zhx else ⟨#[]⟩)) || zcg _ (if zbp x k then [zoT ++ zaE k] else [])) = false;unfold zbH;rw [e3,e4,e5];refine ht ?_;unfold zbZ at hg;rw [e3,e4,e5] at hg;have hn : (zoG ++ zaE k).size ≠ 0:=by rw [ByteArray.size_append]; show 5 + 1 ≠ 0; decide
 have d3 : decide ((if zaW x k then zlv else ⟨#[]⟩ : ByteArray).size ≠ 0) = zaW x k:=by cases zaW x k <;> rfl
 have d5 : decide ((if zbp x k then zhx else ⟨#[]⟩ : ByteArray).size ≠ 0) = zbp x k:=by cases zbp x k <;> rfl
 rw [d3,d5,decide_eq_true hn,Bool.and_true] at hg;exact hg
theorem zrf (x : zi) (t m : Nat) (p : zh) (h : BasePt x t p) : zlD (zb x) (zbH m (zX (zb x) p)) p = if zbZ m (zX (zb x) p) 4 then none else some (wOf (zbZ m (zX (zb x) p) 3) 1 + wOf (zbZ m (zX (zb x) p) 5) 2):=by
 unfold zlD;rcases zin x t p h with ⟨h0,-,-⟩ | ⟨k,hk,-,hp,-⟩
 ·rw [if_pos h0]
  have e3 : zX (zb x) p 3 = ⟨#[]⟩:=by show (zn (zb x) p.street).1.pre = _; rw [h0,zeS]; rfl
  have e4 : zX (zb x) p 4 = ⟨#[]⟩:=by show (zn (zb x) p.street).1.name = _; rw [h0,zeS]; rfl
  have e5 : zX (zb x) p 5 = ⟨#[]⟩:=by show (zn (zb x) p.street).1.suffix = _; rw [h0,zeS]; rfl
  unfold zbZ;rw [e3,e4,e5,decide_eq_false (show ¬ (⟨#[]⟩ : ByteArray).size ≠ 0 from fun h=>h rfl),Bool.and_false,Bool.and_false,Bool.and_false];rfl
 ·have hS7:=zah x
  rw [if_neg (by omega),zlA];have ha:=zsl x m k hk p hp;generalize zhh (zb x) (zad (zbH m (zX (zb x) p) 3) (zbH m (zX (zb x) p) 4) (zbH m (zX (zb x) p) 5)) p.street = al at *;cases h4 : zbZ m (zX (zb x) p) 4
  ·cases h3 : zbZ m (zX (zb x) p) 3 <;> cases h5 : zbZ m (zX (zb x) p) 5 <;> rw [h3,h4,h5] at ha
   ·cases al <;> rfl
   ·rw [ha rfl]; rfl
   ·rw [ha rfl]; rfl
   ·rw [ha rfl]; rfl
  ·rw [h4,Bool.or_true,Bool.true_or] at ha
   rw [ha rfl]; rfl
theorem zta (x : zi) (t m : Nat) (p : zh) (h : BasePt x t p) : (zaU (zb x) (zcT (zb x) p) (zm (zbH m (zX (zb x) p))) p).map zO =
  if zbZ m (zX (zb x) p) 1 || zbZ m (zX (zb x) p) 2 || zbZ m (zX (zb x) p) 4 || zbZ m (zX (zb x) p) 7 then none else some (wOf (zbZ m (zX (zb x) p) 3) 1 + wOf (zbZ m (zX (zb x) p) 5) 2 + wOf (zbZ m (zX (zb x) p) 6) 5 + wOf (zbZ m (zX (zb x) p) 8) 6 + wOf (zbZ m (zX (zb x) p) 9) 1 + wOf (zbZ m (zX (zb x) p) 10) 3):=by
 rw [zqy,if_pos (show (zas (zb x) p.town).1.country = zcT (zb x) p from rfl)];unfold zrR;rw [zwe,zrf x t m p h,zto];generalize zbZ m (zX (zb x) p) 1 = b1;generalize zbZ m (zX (zb x) p) 2 = b2;generalize zbZ m (zX (zb x) p) 4 = b4;generalize zbZ m (zX (zb x) p) 7 = b7;generalize wOf (zbZ m (zX (zb x) p) 3) 1 = n3;generalize wOf (zbZ m (zX (zb x) p) 5) 2 = n5;generalize wOf (zbZ m (zX (zb x) p) 6) 5 = n6;generalize wOf (zbZ m (zX (zb x) p) 8) 6 = n8;generalize wOf (zbZ m (zX (zb x) p) 9) 1 = n9;generalize wOf (zbZ m (zX (zb x) p) 10) 3 = n10;cases b1 <;> cases b2 <;> cases b4 <;> cases b7 <;> simp [zww];omega
theorem zot (v : Nat -> ByteArray) (k : Nat) (h1 : 1 <= k) (h2 : k <= 10) : zsH (zm v) (k : Int) = decide ((v k).size ≠ 0):=by
 unfold zsH zm;rw [Bool.eq_iff_iff,List.any_eq_true,decide_eq_true_eq];constructor
 ·rintro ⟨q,hq,e⟩
  obtain ⟨j,-,-,hz,rfl⟩:=(zcO v 10 q).1 hq;have e2:=of_decide_eq_true e;have e3 : ((j : Nat) : Int) = (k : Int):=e2;obtain rfl : j = k:=by omega
  exact hz
 ·intro hz
  exact ⟨⟨(k : Nat),v k⟩,(zcO v 10 _).2 ⟨k,h1,h2,hz,rfl⟩,decide_eq_true rfl⟩
theorem zkM (m : Nat) (v : Nat -> ByteArray) (k : Nat) : decide ((zbH m v k).size ≠ 0) = (!m.testBit k && decide ((v k).size ≠ 0)):=by
 unfold zbH;cases m.testBit k
 ·simp
 ·simp only [if_true,Bool.not_true,Bool.false_and]
  rfl
theorem zwQ {t m : Nat} {v : Nat -> ByteArray} (h : zsj t v) (h89 : m.testBit 8 = true -> m.testBit 9 = true) :
  ((zbZ m v 1 || zbZ m v 2 || zbZ m v 4 || zbZ m v 7) = false -> (m.testBit 8 && m.testBit 10) = false -> zR (zx t : Nat) (zm (zbH m v)) = true) /\ ((m.testBit 8 && m.testBit 10) = true -> zR (zx t : Nat) (zm (zbH m v)) = false):=by
 have e : ∀ k : Nat,zgz (zbH m v) (k : Int) = (!m.testBit k && decide ((v k).size ≠ 0)):=fun k=>zkM m v k;have e1:=e 1;have e2:=e 2;have e3:=e 3;have e4:=e 4;have e5:=e 5;have e6:=e 6;have e7:=e 7;have e8:=e 8;have e9:=e 9;have e10:=e 10
 have hfit : zmu (zx t : Nat) (zgz (zbH m v)) = (if !m.testBit 7 && decide ((v 7).size ≠ 0) then (if (!m.testBit 1 && decide ((v 1).size ≠ 0)) || (!m.testBit 2 && decide ((v 2).size ≠ 0)) || (!m.testBit 3 && decide ((v 3).size ≠ 0)) || (!m.testBit 4 && decide ((v 4).size ≠ 0)) || (!m.testBit 5 && decide ((v 5).size ≠ 0)) then false else zdY (zx t : Nat) (zgz (zbH m v))) else (if !(!m.testBit 1 && decide ((v 1).size ≠ 0)) || !(!m.testBit 4 && decide ((v 4).size ≠ 0)) then false else zdY (zx t : Nat) (zgz (zbH m v)))):=by
  unfold zmu;rw [show zgz (zbH m v) 7 = _ from e7,show zgz (zbH m v) 1 = _ from e1,show zgz (zbH m v) 2 = _ from e2,show zgz (zbH m v) 3 = _ from e3,show zgz (zbH m v) 4 = _ from e4,show zgz (zbH m v) 5 = _ from e5]
 have hrest : zdY (zx t : Nat) (zgz (zbH m v)) = !(m.testBit 8 && m.testBit 10):=by
  unfold zdY;rw [show zgz (zbH m v) 8 = _ from e8,show zgz (zbH m v) 10 = _ from e10,show zgz (zbH m v) 9 = _ from e9,show zgz (zbH m v) 2 = _ from e2,show zgz (zbH m v) 3 = _ from e3,show zgz (zbH m v) 6 = _ from e6];have hc:=zkp t;have hc1:=h.c1;have hc2:=h.c2;have hc3:=h.c3;have ht:=h.town;have hcd:=h.code;have hcc : zx t = 1 \/ zx t = 2 \/ zx t = 3:=by omega
  rcases hcc with hcc | hcc | hcc
  ·have:=hc1 hcc
   cases h8 : m.testBit 8
   ·simp_all
   ·have:=h89 h8
    cases h10 : m.testBit 10 <;> simp_all
  ·have:=hc2 hcc
   cases h8 : m.testBit 8
   ·simp_all
   ·have:=h89 h8
    cases h10 : m.testBit 10 <;> simp_all
  ·have:=hc3 hcc
   cases h8 : m.testBit 8
   ·simp_all
   ·have:=h89 h8
    cases h10 : m.testBit 10 <;> simp_all
 rw [hrest] at hfit;constructor
 ·intro hg h810
  refine (zeP _ _).2 ⟨fun k h1 h2 hz=>?_,?_⟩
  ·unfold zbH at hz ⊢
   split at hz
   ·exact absurd rfl hz
   ·rename_i hb
    rw [if_neg hb];exact zvV (h.tf k h1 h2) hz
  ·rw [hfit,h810]
   unfold zbZ at hg;rcases h.fit with ⟨f7,f1,f2,f3,f4,f5⟩ | ⟨f7,f1,f4⟩
   ·have hb7 : m.testBit 7 = false:=by
     cases hb : m.testBit 7
     ·rfl
     ·rw [hb] at hg; simp [f7] at hg
    simp [f7,f1,f2,f3,f4,f5,hb7]
   ·have hb1 : m.testBit 1 = false:=by
     cases hb : m.testBit 1
     ·rfl
     ·rw [hb] at hg; simp [f1] at hg
    have hb4 : m.testBit 4 = false:=by
     cases hb : m.testBit 4
     ·rfl
     ·rw [hb] at hg; simp [f4] at hg
    simp [f7,f1,f4,hb1,hb4]
 ·intro h810
  cases hr : zR (zx t : Nat) (zm (zbH m v)) with
  | false=>rfl
  | true=>
   have h2:=((zeP _ _).1 hr).2;rw [hfit,h810] at h2
   split at h2 <;> split at h2 <;> cases h2
theorem zwM (x : zi) (p : zh) (hp : p ∈ (zb x).points) (m : Nat) (h89 : m.testBit 8 = true -> m.testBit 9 = true) :
  (((zcK m (zm (zX (zb x) p))).2 = false \/ (zsH (zbV m (zm (zX (zb x) p))) 8 = false /\ zsH (zbV m (zm (zX (zb x) p))) 10 = false)) ->
   zR (zcT (zb x) p) (zbV m (zm (zX (zb x) p))) = false \/ zaU (zb x) (zcT (zb x) p) (zbV m (zm (zX (zb x) p))) p = none) /\
  ((zcK m (zm (zX (zb x) p))).2 = true -> (zsH (zbV m (zm (zX (zb x) p))) 8 = true \/ zsH (zbV m (zm (zX (zb x) p))) 10 = true) ->
   zR (zcT (zb x) p) (zbV m (zm (zX (zb x) p))) = true /\ ∃ ns,zaU (zb x) (zcT (zb x) p) (zbV m (zm (zX (zb x) p))) p = some ns /\ zO ns = (zcK m (zm (zX (zb x) p))).1):=by
 obtain ⟨t,i,-,-,hb⟩:=zcx x p hp;have ht:=zxR x t p hb;have hm:=zta x t m p hb;have hf:=zwQ ht h89;rw [zsZ,show (8 : Int) = ((8 : Nat) : Int) from rfl,show (10 : Int) = ((10 : Nat) : Int) from rfl,zot _ 8 (by omega) (by omega),zot _ 10 (by omega) (by omega),zkM,zkM,zok,decide_eq_true ht.town,decide_eq_true ht.code];rw [<- zqG x t p hb] at hf;generalize zR (zcT (zb x) p) (zm (zbH m (zX (zb x) p))) = rt at *;generalize zaU (zb x) (zcT (zb x) p) (zm (zbH m (zX (zb x) p))) p = mo at *;generalize (zbZ m (zX (zb x) p) 1 || zbZ m (zX (zb x) p) 2 || zbZ m (zX (zb x) p) 4 || zbZ m (zX (zb x) p) 7) = g at *;generalize m.testBit 8 = b8 at *;generalize m.testBit 10 = b10 at *;constructor
 ·rintro (h | ⟨h8,h10⟩)
  ·right
   have hg : g = true:=by simpa using h
   rw [hg,if_pos rfl] at hm;exact znx hm
  ·left
   exact hf.2 (by cases b8 <;> cases b10 <;> simp at h8 h10 ⊢)
 ·intro h h2
  have hg : g = false:=by simpa using h
  rw [hg,if_neg (by simp)] at hm;obtain ⟨ns,e1,e2⟩:=map_some hm;exact ⟨hf.1 hg (by cases b8 <;> cases b10 <;> simp at h2 ⊢),ns,e1,e2⟩
end
section
open Go.RowKit Go.Maps
def ziQ (m : Nat) : Nat:=if m.testBit 8 then m ||| 512 else m
theorem zxd (m : Nat) (h : m < 65536) : ziQ m < 65536:=by
 unfold ziQ
 split
 ·exact Nat.or_lt_two_pow (n:=16) h (by decide)
 ·exact h
theorem zxc (m : Nat) (h : (ziQ m).testBit 8 = true) : (ziQ m).testBit 9 = true:=by
 unfold ziQ at h ⊢
 split
 ·rw [Nat.testBit_or,show Nat.testBit 512 9 = true from by decide,Bool.or_true]
 ·rename_i h8
  rw [if_neg h8] at h;exact absurd h h8
theorem zti (a b : Nat) (ha : a < 65536) (hb : b < 65536) : bits BinOp.or IntKind.u16 (a : Int) (b : Int) = ((a ||| b : Nat) : Int):=by
 have h : a ||| b < 65536:=Nat.or_lt_two_pow (n:=16) ha hb;show IntKind.u16.wrap (((BitVec.ofInt 16 (a : Int) ||| BitVec.ofInt 16 (b : Int)).toNat : Nat) : Int) = _;rw [BitVec.ofInt_natCast,BitVec.ofInt_natCast,BitVec.toNat_or,BitVec.toNat_ofNat,BitVec.toNat_ofNat,Nat.mod_eq_of_lt (by omega),Nat.mod_eq_of_lt (by omega)];generalize a ||| b = c at h;simp [IntKind.wrap,IntKind.bits,IntKind.signed]; omega
theorem zxe (m k : Nat) (hm : m < 65536) : (bits BinOp.and IntKind.u16 ((m : Int) / 2 ^ k) 1 == 1) = m.testBit k:=by
 have h1 : ((m : Int) / 2 ^ k) = ((m / 2 ^ k : Nat) : Int):=by simp
 have h2 : m / 2 ^ k < 65536:=Nat.lt_of_le_of_lt (Nat.div_le_self _ _) hm;rw [h1,show (1 : Int) = ((1 : Nat) : Int) from rfl,zhw _ _ h2 (by omega),Nat.and_one_is_mod,Nat.testBit_eq_decide_div_mod_eq];have h3:=Nat.mod_two_eq_zero_or_one (m / 2 ^ k);rcases h3 with h | h <;> rw [h] <;> rfl
theorem zkL (m : Nat) (ps : List zu) (k : Nat) (h : k < ps.length) : zcK m (ps.take (k + 1)) = zgN m (zcK m (ps.take k)) (ps.getD k zu.zero):=by
 unfold zcK;rw [zaO ps zu.zero k h,List.foldl_append];rfl
theorem zqb (s : Int × Bool) (k : Int) : s.1 <= (zN s k).1 /\ (zN s k).1 <= s.1 + 6:=by
 unfold zN
 split
 ·simp only; omega
 ·split
  ·simp only; omega
  ·split
   ·simp only; omega
   ·split
    ·simp only; omega
    ·split
     ·simp only; omega
     ·simp only; omega
theorem zoj (m : Nat) (ps : List zu) : ∀ k,k <= ps.length -> 0 <= (zcK m (ps.take k)).1 /\ (zcK m (ps.take k)).1 <= 6 * (k : Int)
 | 0,_=>by simp [zcK]
 | k + 1,h=>by
  have ih:=zoj m ps k (by omega);rw [zkL m ps k (by omega)];unfold zgN
  split
  ·have:=zqb (zcK m (ps.take k)) (ps.getD k zu.zero).kind
   omega
  ·omega
theorem ztD {ps : List zu} (m : Nat) (h : zH ps) : zH (zbV m ps):=fun q hq=>h q (List.mem_filter.1 hq).1
def zxW (st : Int × Bool) (h8 h10 : Bool) (id : Int) (e : Ending) : Prop:=
 ((st.2 = false \/ (h8 = false /\ h10 = false)) -> ∃ (x y : Int) (A : Option Addr) (n c : Nat) (er : Int),er ≠ 0 /\ e = .returned (.tuple #[.agg #[.int .i64 x,.int .i64 y,.slice A n c],.int .i64 er])) /\
 (st.2 = true -> (h8 = true \/ h10 = true) -> ∃ (A : Option Addr) (n c : Nat),e = .returned (.tuple #[.agg #[.int .i64 id,.int .i64 st.1,.slice A n c],.int .i64 0]))
theorem zwL {x : zi} {p : zh} (F : zua x p) (hp : p ∈ (zb x).points) (m : Nat) (h89 : m.testBit 8 = true -> m.testBit 9 = true) {B : Nat} {e : Ending} {w' : World}
  (h : zzc (zae (zb x) && zR (zcT (zb x) p) (zbV m (zm (zX (zb x) p)))) (zaX (zb x) p.id).2 (zaX (zb x) p.id).1.id (zaU (zb x) (zcT (zb x) p) (zbV m (zm (zX (zb x) p))) (zaX (zb x) p.id).1) B e w') :
  zxW (zcK m (zm (zX (zb x) p))) (zsH (zbV m (zm (zX (zb x) p))) 8) (zsH (zbV m (zm (zX (zb x) p))) 10) p.id e:=by
 obtain ⟨h1,h2⟩:=zwM x p hp m h89;rw [F.point,zeE x,Bool.true_and] at h;constructor
 ·intro hc
  rcases h with ⟨-,rfl⟩ | ⟨-,h,-⟩ | ⟨-,-,-,rfl⟩ | ⟨hr,-,ns,nv,hm,rfl,-⟩
  ·exact ⟨0,0,none,0,0,2,by decide,rfl⟩
  ·cases h
  ·exact ⟨0,0,none,0,0,140,by decide,rfl⟩
  ·rcases h1 hc with h | h
   ·rw [h] at hr; cases hr
   ·rw [h] at hm; cases hm
 ·intro hs hh
  obtain ⟨hr,ns,hm,ht⟩:=h2 hs hh;rcases h with ⟨h,-⟩ | ⟨-,h,-⟩ | ⟨-,-,h,-⟩ | ⟨-,-,ns',nv,hm',rfl,hn⟩
  ·rw [hr] at h; cases h
  ·cases h
  ·rw [hm] at h; cases h
  ·rw [hm] at hm'
   obtain rfl:=Option.some.inj hm';obtain ⟨A,c,rfl,-⟩:=hn;rw [ht];exact ⟨A,_,c,rfl⟩
theorem zqc (x : zi) (vc vp : Value) (a1 a2 : Int) (w : World) (hs : zbS w vc vp x) (hw1 : (Lit.int .u8 a1).wf = true) (hw2 : (Lit.int .u16 a2).wf = true) (htab : zbz w) :
  Calls Tryz.prog 4 #[.agg #[.int .u8 (x.towns : Int),.int .u8 (x.streets : Int),vc,vp],.int .u8 a1,.int .u16 a2] w fun e w'=>e = .returned (.bool true) /\ Below w.heap.size w w':=by
 obtain ⟨wh,rfl,hwh⟩ : ∃ n : Nat,a1 = (n : Int) /\ n < 256:=by
  have:=bounds_u8 hw1;exact ⟨a1.toNat,by omega,by omega⟩
 obtain ⟨m,rfl,hm⟩ : ∃ n : Nat,a2 = (n : Int) /\ n < 65536:=by
  have:=bounds_u16 hw2;exact ⟨a2.toNat,by omega,by omega⟩
 obtain ⟨cA,cc,rfl,-⟩:=hs.c;obtain ⟨pA,pc,rfl,-⟩:=hs.p;have hs':=Hd hs;have htab':=Hd htab;clear hs hw1 hw2 htab;go_enter Tryz.func4,Tryz.ntmps4;go_upto_region 1 with fail;have hb0:=Hd ((Below.refl w.heap.size w).alloc (lQ _) (.cells #[.int .u8 (x.towns : Int),.int .u8 (x.streets : Int),.slice cA x.cuts.length cc,.slice pA x.points.length pc] 25));have kS:=Hd (Blk.new w 25 #[.int .u8 (x.towns : Int),.int .u8 (x.streets : Int),.slice cA x.cuts.length cc,.slice pA x.points.length pc]);generalize w.alloc (.cells #[.int .u8 (x.towns : Int),.int .u8 (x.streets : Int),.slice cA x.cuts.length cc,.slice pA x.points.length pc] 25) = W0 at *;have c0:=kS.out.cell 0;have c1:=kS.out.cell 1;have c2:=kS.out.cell 2;have c3:=kS.out.cell 3;have lS:=kS.out.lt;simp at c0 c1 c2 c3;go_wp2_with fail;refine (zik x _ _ wh W0 (hs'.out.stays (zo.of hb0.out)) hwh).mono ?_;rintro e w1 ⟨vt,vs,vr,vq,hr,hb1,hcase⟩;clear c0 c1 c2 c3 lS kS;have hbw:=Hd (hb0.out.trans (hb1.mono hb0.out.size));obtain ⟨⟨tA,tn,tc,rfl⟩,⟨sA,sn,sc,rfl⟩,⟨rA,rn,rc,rfl⟩,⟨qA,qn,qc,rfl⟩⟩:=hr.forms;obtain ⟨-,rfl⟩ | ⟨p,hp,rfl⟩:=hcase
 ·unfold zaz zh.zero
  have hb2:=Hd ((hbw.out.alloc hbw.out.size (.cells #[.slice tA tn tc,.slice sA sn sc,.slice rA rn rc,.slice qA qn qc] 31)).alloc (by have:=hbw.out.size; simp; omega) (.cells #[.int .i64 0,.int .i64 0,.int .i64 0,.int .i64 0,.string ⟨#[]⟩,.string ⟨#[]⟩,.int .i64 0,.int .i64 0] 33));go_upto_region 2 with fail;generalize (w1.alloc (.cells #[.slice tA tn tc,.slice sA sn sc,.slice rA rn rc,.slice qA qn qc] 31)).alloc (.cells #[.int .i64 0,.int .i64 0,.int .i64 0,.int .i64 0,.string ⟨#[]⟩,.string ⟨#[]⟩,.int .i64 0,.int .i64 0] 33) = w2 at *;go_wp2_with fail;refine (zbq w2 (htab'.out.below hb2.out)).mono ?_;rintro e w3 ⟨rfl,hb3⟩;go_wp2;go_ret;exact ⟨rfl,hb2.out.trans (hb3.mono hb2.out.size)⟩
 ·have F:=Hd (znB x p hp)
  unfold zaz;have hb2:=Hd ((hbw.out.alloc hbw.out.size (.cells #[.slice tA tn tc,.slice sA sn sc,.slice rA rn rc,.slice qA qn qc] 31)).alloc (by have:=hbw.out.size; simp; omega) (.cells #[.int .i64 p.id,.int .i64 p.town,.int .i64 p.street,.int .i64 p.number,.string p.letter,.string p.unit,.int .i64 p.box,.int .i64 p.seq] 33));have kF:=Hd ((Blk.new w1 31 #[.slice tA tn tc,.slice sA sn sc,.slice rA rn rc,.slice qA qn qc]).alloc (.cells #[.int .i64 p.id,.int .i64 p.town,.int .i64 p.street,.int .i64 p.number,.string p.letter,.string p.unit,.int .i64 p.box,.int .i64 p.seq] 33));have kP:=Hd (Blk.new_at (w1.alloc (.cells #[.slice tA tn tc,.slice sA sn sc,.slice rA rn rc,.slice qA qn qc] 31)) 33 #[.int .i64 p.id,.int .i64 p.town,.int .i64 p.street,.int .i64 p.number,.string p.letter,.string p.unit,.int .i64 p.box,.int .i64 p.seq] (w1.heap.size + 1) (by simp));have hr2:=Hd (hr.stays (zo.of (((Below.refl w1.heap.size w1).alloc (lQ _) (.cells #[.slice tA tn tc,.slice sA sn sc,.slice rA rn rc,.slice qA qn qc] 31)).alloc (by simp) (.cells #[.int .i64 p.id,.int .i64 p.town,.int .i64 p.street,.int .i64 p.number,.string p.letter,.string p.unit,.int .i64 p.box,.int .i64 p.seq] 33))));clear hr hb1;go_upto_region 2 with fail;generalize (w1.alloc (.cells #[.slice tA tn tc,.slice sA sn sc,.slice rA rn rc,.slice qA qn qc] 31)).alloc (.cells #[.int .i64 p.id,.int .i64 p.town,.int .i64 p.street,.int .i64 p.number,.string p.letter,.string p.unit,.int .i64 p.box,.int .i64 p.seq] 33) = w2 at *;generalize w1.heap.size + 1 = N6 at *;generalize w1.heap.size = N5 at *;have hbr2:=hb2;go_upto_region 4 with fail;have f0:=kF.out.cell 0;have f1:=kF.out.cell 1;have f2:=kF.out.cell 2;have f3:=kF.out.cell 3;have lF:=kF.out.lt;have g0:=kP.out.cell 0;have g1:=kP.out.cell 1;have g2:=kP.out.cell 2;have g3:=kP.out.cell 3;have g4:=kP.out.cell 4;have g5:=kP.out.cell 5;have g6:=kP.out.cell 6;have g7:=kP.out.cell 7;have lP:=kP.out.lt;simp at f0 f1 f2 f3 g0 g1 g2 g3 g4 g5 g6 g7;go_wp2_with fail;refine (zrV _ _ _ _ (zb x) p w2 hr2.out F.out.fine (htab'.out.below hb2.out)).mono ?_;rintro e w3 ⟨v,rfl,hown,hb3⟩;have hpp:=Hd hown.parts;obtain ⟨vA,vm,rfl⟩:=hown.form_;clear f0 f1 f2 f3 lF g0 g1 g2 g3 g4 g5 g6 g7 lP hown;have hdl:=Hd (fun (W : World) (lv : Value) h1 h2 h3=>(zcA (.slice tA tn tc) (.slice sA sn sc) (.slice rA rn rc) (.slice qA qn qc) (zb x) (zcT (zb x) p) lv (zbV (ziQ m) (zm (zX (zb x) p))) p.id W h1 (zbv x) h2 (ztD (ziQ m) F.out.small) (fun _=>zbl x) h3).mono (fun e w' hh=>And.intro (zwL F.out hp (ziQ m) (zxc m) hh.1) hh.2));have hp10 : (zm (zX (zb x) p)).length <= 10:=zcX _ 10
  have hkd:=Hd (show ∀ q ∈ zm (zX (zb x) p),∃ k : Nat,q.kind = k /\ k <= 10 from fun q hq=>by
   obtain ⟨j,-,h2,-,rfl⟩:=(zcO _ 10 q).1 hq
   exact ⟨j,rfl,h2⟩)
  clear F hp;generalize zcT (zb x) p = c at *;generalize zm (zX (zb x) p) = ps at *;have hb4:=Hd ((hb2.out.trans (hb3.mono hb2.out.size)).alloc (Nat.le_trans hb2.out.size hb3.size) (.cells #[.int .u8 c,.slice vA ps.length vm] 39));have kF4:=Hd ((kF.out.below hb3 kF.out.lt).alloc (.cells #[.int .u8 c,.slice vA ps.length vm] 39));have kP4:=Hd ((kP.out.below hb3 kP.out.lt).alloc (.cells #[.int .u8 c,.slice vA ps.length vm] 39));have kR4:=Hd (Blk.new w3 39 #[.int .u8 c,.slice vA ps.length vm]);have hr4:=Hd (hr2.out.stays (zo.of (hb3.alloc hb3.size (.cells #[.int .u8 c,.slice vA ps.length vm] 39))));have hp4:=Hd (hpp.out.stays (zo.of ((Below.refl w3.heap.size w3).alloc (lQ _) (.cells #[.int .u8 c,.slice vA ps.length vm] 39))));clear kF kP hr2 hpp hb2 hbr2 hbw hb0 hs';go_upto_region 5 with fail;clear hb3;generalize w3.alloc (.cells #[.int .u8 c,.slice vA ps.length vm] 39) = w4 at *;generalize w3.heap.size = N8 at *;have hone : (bits BinOp.and IntKind.u16 ((m : Int) / 256) 1 == 1) = m.testBit 8:=zxe m 8 hm;have hor:=zti m 512 hm (by omega);have hml:=zxd m hm;have hmu : Hid (ziQ m = if m.testBit 8 then m ||| 512 else m):=Hd rfl;go_upto_if 34 with fail
  go_cut [2] (fun s2 wx=>Hid (s2 = .int .u16 ((ziQ m : Nat) : Int) /\ wx = w4))
  case first=>
   cases h8 : m.testBit 8 with
   | true=>
    have hmE : Hid (ziQ m = m ||| 512):=Hd (by rw [hmu.out,h8]; rfl);rw [h8] at hone;go_wp2;go_meet
    case rel=>exact Hd ⟨by rw [hmE.out,<- hor]; rfl,rfl⟩
   | false=>
    have hmE : Hid (ziQ m = m):=Hd (by rw [hmu.out,h8]; rfl);rw [h8] at hone;go_wp2;go_meet
    case rel=>exact Hd ⟨by rw [hmE.out],rfl⟩
  case rest=>
  obtain ⟨rfl,rfl⟩:=hcut.out;clear hcut hone hor hmu;generalize ziQ m = m2 at *;clear hm;rename World=>w4;have r0:=kR4.out.cell 0;have r1:=kR4.out.cell 1;have lR:=kR4.out.lt;simp at r0 r1;go_upto_region 7 with fail;go_wp2_with fail;refine (ztP c (.slice vA ps.length vm) ps m2 w4 hp4.out hkd.out (by omega) hml).mono ?_;rintro e w5 ⟨lv,rfl,hless,hb5⟩;obtain ⟨lA,lc,rfl⟩:=hless.form_;have hlp:=Hd (hless.parts.stays (zo.of ((Below.refl w5.heap.size w5).alloc (lQ _) (.cells #[.int .u8 c,.slice lA (zbV m2 ps).length lc] 39))));clear r0 r1 lR hless;have hb6:=Hd ((hb4.out.trans (hb5.mono hb4.out.size)).alloc (Nat.le_trans hb4.out.size hb5.size) (.cells #[.int .u8 c,.slice lA (zbV m2 ps).length lc] 39));have h56:=hb5.alloc hb5.size (.cells #[.int .u8 c,.slice lA (zbV m2 ps).length lc] 39);have kF6:=Hd (kF4.out.below h56 kF4.out.lt);have kP6:=Hd (kP4.out.below h56 kP4.out.lt);have kR6:=Hd (kR4.out.below h56 kR4.out.lt);have kL6:=Hd (Blk.new w5 39 #[.int .u8 c,.slice lA (zbV m2 ps).length lc]);have hr6:=Hd (hr4.out.stays (zo.of h56));have hp6:=Hd (hp4.out.stays (zo.of h56));clear hb4 kF4 kP4 kR4 hr4 hp4 h56;go_upto_region 8 with fail;clear hb5;generalize w5.alloc (.cells #[.int .u8 c,.slice lA (zbV m2 ps).length lc] 39) = w6 at *;generalize w5.heap.size = N9 at *;have r1:=kR6.out.cell 1;have lR:=kR6.out.lt;simp at r1;go_wp2;clear r1 lR
  go_loopw [12,13,43] (fun s12 s13 kv wr=>∃ k : Nat,k <= ps.length /\ kv = .int .i64 k /\ s12 = .int .i64 (zcK m2 (ps.take k)).1 /\ s13 = .bool (zcK m2 (ps.take k)).2 /\ Hid (Below w6.heap.size w6 wr)) (fun _ _ kv _=>ps.length - (intOf kv).toNat)
  case atStart=>exact ⟨0,by omega,rfl,rfl,rfl,Hd (Below.refl _ _)⟩
  case round=>
   obtain ⟨k,hk,rfl,rfl,rfl,hbr⟩:=hrel;rename World=>wr;have n0 : (0 : Int) <= (k : Int):=by omega
   by_cases hlt : k < ps.length
   ·have n1 : (k : Int) < (ps.length : Int):=by omega
    obtain ⟨B',d',hq2,-,-,hB⟩:=hp6.out;obtain ⟨qb,qo,rfl,hqb,hqi⟩:=hB (by omega);injection hq2 with e1 _ e3;subst e1;obtain ⟨b0,b1⟩:=hqi k hlt;rw [<- hbr.out.cell (p:=⟨qb,qo + k * 2,none⟩) hqb] at b0;rw [<- hbr.out.cell (p:=⟨qb,qo + k * 2 + 1,none⟩) hqb] at b1;have hsu:=Hd (zkL m2 ps k hlt);have hle:=zoj m2 ps k hk;obtain ⟨kd,hkd1,hkd2⟩ : ∃ kd : Nat,(ps.getD k zu.zero).kind = kd /\ kd <= 10:=hkd.out _ (by rw [zD _ _ _ hlt]; exact List.getElem_mem hlt);clear hB hqi;generalize ps.getD k zu.zero = q at *;obtain ⟨qk,qt⟩:=q;simp only at b0 b1 hkd1;subst hkd1;have hmb:=zrQ m2 kd hml;have hst : Hid (zcK m2 (ps.take (k + 1)) = if m2.testBit kd then zN (zcK m2 (ps.take k)) (kd : Int) else zcK m2 (ps.take k)):=Hd hsu.out;clear hsu;generalize zcK m2 (ps.take k) = st at *;obtain ⟨cost,okb⟩:=st;simp only at hle;have hc0:=hle.1;have hc1 : cost <= 60:=by omega
    clear hle;have hbx:=Hd (hbr.out.alloc hbr.out.size (.cells #[.int .u8 kd,.string qt] 50))
    cases hbit : m2.testBit kd with
    | false=>
     rw [hbit] at hmb hst;go_wp2;go_roundw
     case rel=>exact ⟨k + 1,by omega,by go_num,by rw [hst.out]; rfl,by rw [hst.out]; rfl,hbx⟩
     case measure=>simp [intOf]; omega
    | true=>
     rw [hbit] at hmb hst;have hst2 : Hid (zcK m2 (ps.take (k + 1)) = zN (cost,okb) (kd : Int)):=Hd hst.out;clear hst;go_upto_region 13 with fail;clear hmb b0 b1;obtain rfl | rfl | rfl | rfl | rfl | rfl | rfl | rfl | rfl | rfl | rfl : kd = 0 \/ kd = 1 \/ kd = 2 \/ kd = 3 \/ kd = 4 \/ kd = 5 \/ kd = 6 \/ kd = 7 \/ kd = 8 \/ kd = 9 \/ kd = 10:=by omega
     ·go_wp2
      go_roundw
      case rel=>exact ⟨k + 1,by omega,by go_num,by rw [hst2.out]; simp [zN],by rw [hst2.out]; simp [zN],hbx⟩
      case measure=>simp [intOf]; omega
     ·go_wp2
      go_roundw
      case rel=>exact ⟨k + 1,by omega,by go_num,by rw [hst2.out]; simp [zN],by rw [hst2.out]; simp [zN],hbx⟩
      case measure=>simp [intOf]; omega
     ·go_wp2
      go_roundw
      case rel=>exact ⟨k + 1,by omega,by go_num,by rw [hst2.out]; simp [zN],by rw [hst2.out]; simp [zN],hbx⟩
      case measure=>simp [intOf]; omega
     ·go_wp2
      go_roundw
      case rel=>exact ⟨k + 1,by omega,by go_num,by rw [hst2.out]; simp [zN],by rw [hst2.out]; simp [zN],hbx⟩
      case measure=>simp [intOf]; omega
     ·go_wp2
      go_roundw
      case rel=>exact ⟨k + 1,by omega,by go_num,by rw [hst2.out]; simp [zN],by rw [hst2.out]; simp [zN],hbx⟩
      case measure=>simp [intOf]; omega
     ·go_wp2
      go_roundw
      case rel=>exact ⟨k + 1,by omega,by go_num,by rw [hst2.out]; simp [zN],by rw [hst2.out]; simp [zN],hbx⟩
      case measure=>simp [intOf]; omega
     ·go_wp2
      go_roundw
      case rel=>exact ⟨k + 1,by omega,by go_num,by rw [hst2.out]; simp [zN],by rw [hst2.out]; simp [zN],hbx⟩
      case measure=>simp [intOf]; omega
     ·go_wp2
      go_roundw
      case rel=>exact ⟨k + 1,by omega,by go_num,by rw [hst2.out]; simp [zN],by rw [hst2.out]; simp [zN],hbx⟩
      case measure=>simp [intOf]; omega
     ·go_wp2
      go_roundw
      case rel=>exact ⟨k + 1,by omega,by go_num,by rw [hst2.out]; simp [zN],by rw [hst2.out]; simp [zN],hbx⟩
      case measure=>simp [intOf]; omega
     ·go_wp2
      go_roundw
      case rel=>exact ⟨k + 1,by omega,by go_num,by rw [hst2.out]; simp [zN],by rw [hst2.out]; simp [zN],hbx⟩
      case measure=>simp [intOf]; omega
     ·go_wp2
      go_roundw
      case rel=>exact ⟨k + 1,by omega,by go_num,by rw [hst2.out]; simp [zN],by rw [hst2.out]; simp [zN],hbx⟩
      case measure=>simp [intOf]; omega
   ·obtain rfl : k = ps.length:=by omega
    have n1 : ¬ (ps.length : Int) < (ps.length : Int):=by omega
    rw [List.take_length];have hb7:=Hd (hb6.out.trans (hbr.out.mono hb6.out.size));have kF7:=Hd (kF6.out.below hbr.out kF6.out.lt);have kP7:=Hd (kP6.out.below hbr.out kP6.out.lt);have kL7:=Hd (kL6.out.below hbr.out kL6.out.lt);have hr7:=Hd (hr6.out.stays (zo.of hbr.out));have hl7:=Hd (hlp.out.stays (zo.of hbr.out));clear kF6 kP6 kR6 kL6 hr6 hp6 hlp hb6 hbr;go_upto_region 27 with fail;have f0:=kF7.out.cell 0;have f1:=kF7.out.cell 1;have f2:=kF7.out.cell 2;have f3:=kF7.out.cell 3;have lF:=kF7.out.lt;have g0:=kP7.out.cell 0;have lP:=kP7.out.lt;have r0:=kL7.out.cell 0;have r1:=kL7.out.cell 1;have lL:=kL7.out.lt;simp at f0 f1 f2 f3 g0 r0 r1;go_wp2_with fail;refine (hdl.out wr _ hr7.out hl7.out (htab'.out.below hb7.out)).mono ?_;rintro e w8 ⟨hend,hb8⟩;clear f0 f1 f2 f3 lF g0 lP r0 r1 lL kF7 kP7 hr7 hdl;have hb8w:=Hd (hb7.out.trans (hb8.mono hb7.out.size));have kL8:=Hd (kL7.out.below hb8 kL7.out.lt);have hl8:=Hd (hl7.out.stays (zo.of hb8));clear kL7 hl7 hb7 hb8;have hh8:=Hd (fun (W : World) h1=>zxK c (.slice lA (zbV m2 ps).length lc) (zbV m2 ps) 8 W h1);have hh10:=Hd (fun (W : World) h1=>zxK c (.slice lA (zbV m2 ps).length lc) (zbV m2 ps) 10 W h1);generalize zcK m2 ps = st at *;obtain ⟨cost,okb⟩:=st;generalize zsH (zbV m2 ps) 8 = k8 at *;generalize zsH (zbV m2 ps) 10 = k10 at *;obtain ⟨hbad,hgood⟩:=hend
    cases okb with
    | false=>
     obtain ⟨ex,ey,eA,en,ec,er,her,rfl⟩:=hbad (.inl rfl);clear hbad hgood;have hb9:=Hd (hb8w.out.alloc hb8w.out.size (.cells #[.int .i64 ex,.int .i64 ey,.slice eA en ec] 43));have kL9:=Hd (kL8.out.alloc (.cells #[.int .i64 ex,.int .i64 ey,.slice eA en ec] 43));have kM9:=Hd (Blk.new w8 43 #[.int .i64 ex,.int .i64 ey,.slice eA en ec]);have hl9:=Hd (hl8.out.stays (zo.of ((Below.refl w8.heap.size w8).alloc (lQ _) (.cells #[.int .i64 ex,.int .i64 ey,.slice eA en ec] 43))));go_upto_region 28 with fail;clear hb8w kL8 hl8;generalize w8.alloc (.cells #[.int .i64 ex,.int .i64 ey,.slice eA en ec] 43) = w9 at *;generalize w8.heap.size = NM at *;have r0:=kL9.out.cell 0;have r1:=kL9.out.cell 1;have lL:=kL9.out.lt;simp at r0 r1;have e9 : (er != 0) = true:=by simpa using her
     go_wp2_with fail;refine (zbq w9 (htab'.out.below hb9.out)).mono ?_;rintro e w12 ⟨rfl,hbZ⟩;go_wp2;go_ret;exact ⟨rfl,hb9.out.trans (hbZ.mono hb9.out.size)⟩
    | true=>
     cases k8 with
     | true=>
      obtain ⟨eA,en,ec,rfl⟩:=hgood rfl (.inl rfl);clear hbad hgood;have hb9:=Hd (hb8w.out.alloc hb8w.out.size (.cells #[.int .i64 p.id,.int .i64 cost,.slice eA en ec] 43));have kL9:=Hd (kL8.out.alloc (.cells #[.int .i64 p.id,.int .i64 cost,.slice eA en ec] 43));have kM9:=Hd (Blk.new w8 43 #[.int .i64 p.id,.int .i64 cost,.slice eA en ec]);have hl9:=Hd (hl8.out.stays (zo.of ((Below.refl w8.heap.size w8).alloc (lQ _) (.cells #[.int .i64 p.id,.int .i64 cost,.slice eA en ec] 43))));go_upto_region 28 with fail;clear hb8w kL8 hl8;generalize w8.alloc (.cells #[.int .i64 p.id,.int .i64 cost,.slice eA en ec] 43) = w9 at *;generalize w8.heap.size = NM at *;have r0:=kL9.out.cell 0;have r1:=kL9.out.cell 1;have lL:=kL9.out.lt;simp at r0 r1;go_wp2_with fail;refine (hh8.out w9 hl9.out).mono ?_;rintro e w10 ⟨rfl,hbA⟩;have hb10:=Hd (hb9.out.trans (hbA.mono hb9.out.size));have kM10:=Hd (kM9.out.below hbA kM9.out.lt);have kL10:=Hd (kL9.out.below hbA kL9.out.lt);have hl10:=Hd (hl9.out.stays (zo.of hbA));clear r0 r1 lL hbA hb9 kM9 kL9 hl9;have m1:=kM10.out.cell 1;have lM:=kM10.out.lt;simp at m1;go_wp2_with fail;refine (zbq w10 (htab'.out.below hb10.out)).mono ?_;rintro e w12 ⟨rfl,hbZ⟩;go_wp2;go_ret;exact ⟨rfl,hb10.out.trans (hbZ.mono hb10.out.size)⟩
     | false=>
      cases k10 with
      | true=>
       obtain ⟨eA,en,ec,rfl⟩:=hgood rfl (.inr rfl);clear hbad hgood;have hb9:=Hd (hb8w.out.alloc hb8w.out.size (.cells #[.int .i64 p.id,.int .i64 cost,.slice eA en ec] 43));have kL9:=Hd (kL8.out.alloc (.cells #[.int .i64 p.id,.int .i64 cost,.slice eA en ec] 43));have kM9:=Hd (Blk.new w8 43 #[.int .i64 p.id,.int .i64 cost,.slice eA en ec]);have hl9:=Hd (hl8.out.stays (zo.of ((Below.refl w8.heap.size w8).alloc (lQ _) (.cells #[.int .i64 p.id,.int .i64 cost,.slice eA en ec] 43))));go_upto_region 28 with fail;clear hb8w kL8 hl8;generalize w8.alloc (.cells #[.int .i64 p.id,.int .i64 cost,.slice eA en ec] 43) = w9 at *;generalize w8.heap.size = NM at *;have r0:=kL9.out.cell 0;have r1:=kL9.out.cell 1;have lL:=kL9.out.lt;simp at r0 r1;go_wp2_with fail;refine (hh8.out w9 hl9.out).mono ?_;rintro e w10 ⟨rfl,hbA⟩;have hb10:=Hd (hb9.out.trans (hbA.mono hb9.out.size));have kM10:=Hd (kM9.out.below hbA kM9.out.lt);have kL10:=Hd (kL9.out.below hbA kL9.out.lt);have hl10:=Hd (hl9.out.stays (zo.of hbA));clear r0 r1 lL hbA hb9 kM9 kL9 hl9;have r0:=kL10.out.cell 0;have r1:=kL10.out.cell 1;have lL:=kL10.out.lt;simp at r0 r1;go_wp2_with fail;refine (hh10.out w10 hl10.out).mono ?_;rintro e w11 ⟨rfl,hbB⟩;have hb11:=Hd (hb10.out.trans (hbB.mono hb10.out.size));have kM11:=Hd (kM10.out.below hbB kM10.out.lt);clear r0 r1 lL hbB hb10 kM10 kL10 hl10;have m1:=kM11.out.cell 1;have lM:=kM11.out.lt;simp at m1;go_wp2_with fail;refine (zbq w11 (htab'.out.below hb11.out)).mono ?_;rintro e w12 ⟨rfl,hbZ⟩;go_wp2;go_ret;exact ⟨rfl,hb11.out.trans (hbZ.mono hb11.out.size)⟩
      | false=>
       obtain ⟨ex,ey,eA,en,ec,er,her,rfl⟩:=hbad (.inr ⟨rfl,rfl⟩);clear hbad hgood;have hb9:=Hd (hb8w.out.alloc hb8w.out.size (.cells #[.int .i64 ex,.int .i64 ey,.slice eA en ec] 43));have kL9:=Hd (kL8.out.alloc (.cells #[.int .i64 ex,.int .i64 ey,.slice eA en ec] 43));have kM9:=Hd (Blk.new w8 43 #[.int .i64 ex,.int .i64 ey,.slice eA en ec]);have hl9:=Hd (hl8.out.stays (zo.of ((Below.refl w8.heap.size w8).alloc (lQ _) (.cells #[.int .i64 ex,.int .i64 ey,.slice eA en ec] 43))));go_upto_region 28 with fail;clear hb8w kL8 hl8;generalize w8.alloc (.cells #[.int .i64 ex,.int .i64 ey,.slice eA en ec] 43) = w9 at *;generalize w8.heap.size = NM at *;have r0:=kL9.out.cell 0;have r1:=kL9.out.cell 1;have lL:=kL9.out.lt;simp at r0 r1;go_wp2_with fail;refine (hh8.out w9 hl9.out).mono ?_;rintro e w10 ⟨rfl,hbA⟩;have hb10:=Hd (hb9.out.trans (hbA.mono hb9.out.size));have kM10:=Hd (kM9.out.below hbA kM9.out.lt);have kL10:=Hd (kL9.out.below hbA kL9.out.lt);have hl10:=Hd (hl9.out.stays (zo.of hbA));clear r0 r1 lL hbA hb9 kM9 kL9 hl9;have r0:=kL10.out.cell 0;have r1:=kL10.out.cell 1;have lL:=kL10.out.lt;simp at r0 r1;go_wp2_with fail;refine (hh10.out w10 hl10.out).mono ?_;rintro e w11 ⟨rfl,hbB⟩;have hb11:=Hd (hb10.out.trans (hbB.mono hb10.out.size));have kM11:=Hd (kM10.out.below hbB kM10.out.lt);clear r0 r1 lL hbB hb10 kM10 kL10 hl10;have e9 : (er != 0) = true:=by simpa using her
       go_wp2_with fail;refine (zbq w11 (htab'.out.below hb11.out)).mono ?_;rintro e w12 ⟨rfl,hbZ⟩;go_wp2;go_ret;exact ⟨rfl,hb11.out.trans (hbZ.mono hb11.out.size)⟩
end
end Go.Proofs.YtggimnndflkjkaaGreatDoor
