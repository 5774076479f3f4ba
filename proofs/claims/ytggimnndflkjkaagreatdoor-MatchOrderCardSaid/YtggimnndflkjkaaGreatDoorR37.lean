import Derived.Test.YtggimnndflkjkaaGreatDoorR01
import Derived.Test.YtggimnndflkjkaaGreatDoorR28
import Derived.Test.YtggimnndflkjkaaGreatDoorR36
set_option linter.all false
set_option maxRecDepth 100000
set_option maxHeartbeats 0
namespace Go.Proofs.YtggimnndflkjkaaGreatDoor
section
open Go.RowKit
def zrW (b : Nat) : Bool:=(decide (65 <= b) && decide (b <= 90)) || ((decide (48 <= b) && decide (b <= 57)) || (decide (b = 45) || (decide (b = 47) || decide (b = 32))))
def zfS (s : ByteArray) : Bool:=(List.range s.size).all fun i=>zrW (zU s i)
theorem zgY {s : ByteArray} (h : zfS s = true) : zkv s:=by
 intro i hi;have h1:=List.all_eq_true.1 h i (List.mem_range.2 hi);unfold zrW at h1;unfold zvE;simp only [Bool.or_eq_true,Bool.and_eq_true,decide_eq_true_eq] at h1;omega
def tf (c kd : Int) (s : ByteArray) : Bool:=decide (s.size <= 100) && (zfS s && (decide (s.size = 0) || zcW c kd s))
theorem zer (c kd : Int) : tf c kd ⟨#[]⟩ = true:=rfl
theorem zeU {c kd : Int} {s : ByteArray} (h : tf c kd s = true) : s.size <= 100:=by
 unfold tf at h;rw [Bool.and_eq_true] at h;exact of_decide_eq_true h.1
theorem zxA {c kd : Int} {s : ByteArray} (h : tf c kd s = true) : zkv s:=by
 unfold tf at h;rw [Bool.and_eq_true,Bool.and_eq_true] at h;exact zgY h.2.1
theorem zvV {c kd : Int} {s : ByteArray} (h : tf c kd s = true) (hs : s.size ≠ 0) : zcW c kd s = true:=by
 unfold tf at h;rw [Bool.and_eq_true,Bool.and_eq_true,decide_eq_false hs,Bool.false_or] at h;exact h.2.2
theorem zxB : ∀ j i : Fin 5,(tf (zx i.val : Nat) 8 (zjV j.val i.val).name && (tf (zx i.val : Nat) 9 (zjV j.val i.val).region && (decide ((zjV j.val i.val).name.size ≠ 0) &&
  (zjV j.val i.val).codes.all fun s=>tf (zx i.val : Nat) 10 s && decide (s.size ≠ 0)))) = true:=by decide +kernel
theorem ztG : ∀ t : Fin 5,∀ i : Fin 7,∀ pre suf : Bool,(tf (zx t.val : Nat) 3 (zeR t.val pre suf i.val).pre && (tf (zx t.val : Nat) 4 (zeR t.val pre suf i.val).name &&
  (tf (zx t.val : Nat) 5 (zeR t.val pre suf i.val).suffix && (decide ((zeR t.val pre suf i.val).name.size ≠ 0) && (zeR t.val pre suf i.val).others.all fun s=>decide (s.size <= 100))))) = true:=by decide +kernel
theorem zoh : ∀ c : Fin 3,∀ n : Fin 101,n.val ≠ 0 -> (tf (c.val + 1 : Nat) 1 (zao (n.val : Nat)) && (tf (c.val + 1 : Nat) 7 (zao (n.val : Nat)) && decide ((zao (n.val : Nat)).size ≠ 0))) = true:=by decide +kernel
theorem zvf : ∀ c : Fin 3,(tf (c.val + 1 : Nat) 2 ⟨#[66]⟩ && tf (c.val + 1 : Nat) 6 ⟨#[50]⟩) = true:=by decide +kernel
theorem zkp (i : Nat) : 1 <= zx i /\ zx i <= 3:=by unfold zx; omega
theorem zvY (i : Nat) : ∃ c : Fin 3,zx i = c.val + 1:=⟨⟨i % 3,Nat.mod_lt _ (by omega)⟩,by unfold zx; simp; omega⟩
theorem ziy (x : zi) (i : Nat) (h : i < 5) : tf (zx i : Nat) 8 (zbF x i).name = true /\ tf (zx i : Nat) 9 (zbF x i).region = true /\ (zbF x i).name.size ≠ 0 /\ ∀ s ∈ (zbF x i).codes,tf (zx i : Nat) 10 s = true /\ s.size ≠ 0:=by
 have h1:=zxB ⟨(i + zej x.cuts i) % 5,Nat.mod_lt _ (by omega)⟩ ⟨i,h⟩;simp only [Bool.and_eq_true,decide_eq_true_eq,List.all_eq_true] at h1;exact h1
theorem zhd (x : zi) (i : Nat) (h : i < 7) : tf (zx (i % zK x) : Nat) 3 (zac x i).pre = true /\ tf (zx (i % zK x) : Nat) 4 (zac x i).name = true /\ tf (zx (i % zK x) : Nat) 5 (zac x i).suffix = true /\ (zac x i).name.size ≠ 0 /\ ∀ s ∈ (zac x i).others,s.size <= 100:=by
 have ht : i % zK x < 5:=by have:=zfs x i; have:=zal x; omega
 have h1:=ztG ⟨i % zK x,ht⟩ ⟨i,h⟩ (zaW x i) (zbp x i);simp only [Bool.and_eq_true,decide_eq_true_eq,List.all_eq_true] at h1;exact h1
theorem zwU {n : Int} (h : zcn n = true) : 1 <= n /\ n <= 999999:=by
 unfold zcn at h;simpa using h
theorem zmM (x : zi) (g : zj) (h : g ∈ (zb x).ranges) : ∃ t,t < zK x /\ zgq t g:=by
 have h5:=(zal x).2;have h7:=zah x;rcases zev.1 h with ⟨i,hi,rfl⟩ | ⟨i,hi,hg⟩
 ·exact ⟨i,hi,zmR i (by omega)⟩
 ·exact ⟨_,zfs x i,(zdU x i (by omega) g hg).1⟩
theorem zbv (x : zi) : zks (zb x) where
 t:=by
  intro t ht;obtain ⟨i,hi,rfl⟩:=zeJ.1 ht;have h5:=zal x;obtain ⟨h1,h2,-,h3⟩:=ziy x i (by omega);have e1 : (zbF x i).id = (10 + i : Nat):=rfl;have e2 : (zbF x i).country = (zx i : Nat):=rfl;have hc:=zkp i;refine ⟨by rw [e1]; unfold zam; omega,by rw [e2]; omega,by have:=zeU h1; omega,by have:=zeU h2; omega,fun s hs=>by have:=zeU (h3 s hs).1; omega⟩
 s:=by
  intro s hs;obtain ⟨i,hi,rfl⟩:=zcr.1 hs;have h7:=zah x;have h5:=zal x;have ht:=zfs x i;obtain ⟨h1,h2,h3,-,h4⟩:=zhd x i (by omega);have e1 : (zac x i).id = 50 - (i : Int):=rfl;have e2 : (zac x i).town = (10 + i % zK x : Nat):=rfl;refine ⟨by rw [e1]; unfold zam; omega,by rw [e2]; unfold zam; omega,by have:=zeU h1; omega,by have:=zeU h2; omega,by have:=zeU h3; omega,fun s hs=>by have:=h4 s hs; omega⟩
 r:=by
  intro g hg;obtain ⟨t,ht,hs⟩:=zmM x g hg;have h5:=zal x;have h1:=zwU hs.route;refine ⟨by rw [hs.town]; unfold zam; omega,hs.street,by unfold zam; omega⟩
 p:=by
  intro p hp;obtain ⟨t,i',hi,hid,hb⟩:=zcx x p hp;have h5:=zal x;have h7:=zah x
  cases hb with
  | street i k num seq letter unit hk hn hl hu hs=>
   have ht:=zfs x k;have e1 : letter.size <= 1:=by rcases hl with rfl | ⟨rfl,-⟩ <;> decide
   have e2 : unit.size <= 1:=by rcases hu with rfl | ⟨rfl,-⟩ <;> decide
   have hid' : 900 - (i : Int) = 900 - (i' : Int):=hid;unfold zam;refine ⟨?_,?_,?_,?_,?_,?_,?_,?_⟩ <;> simp only <;> omega
  | box i t bx seq ht hb hs=>
   have hid' : 900 - (i : Int) = 900 - (i' : Int):=hid;have z0 : (⟨#[]⟩ : ByteArray).size = 0:=rfl;unfold zam;refine ⟨?_,?_,?_,?_,?_,?_,?_,?_⟩ <;> simp <;> omega
theorem ziL {α : Type} (z : α) (p : α -> Bool) : ∀ l : List α,(zA z p l).2 = false -> (zA z p l).1 = z
 | [],_=>rfl
 | x :: t,h=>by
  unfold zA at h ⊢;cases hx : p x
  ·rw [hx] at h
   simp at h ⊢;exact ziL z p t h
  ·rw [hx] at h; simp at h
theorem zdR {α : Type} (z : α) (p : α -> Bool) (l : List α) : (zA z p l).1 = z \/ (zA z p l).1 ∈ l:=by
 cases h : (zA z p l).2
 ·exact .inl (ziL z p l h)
 ·exact .inr (zcp z p l h).1
theorem ztj (x : zi) (i : Nat) : (zac x i).others.length <= 1:=by
 unfold zac zeR;simp only
 split <;> simp
theorem zbl (x : zi) : zrv (zb x) where
 t:=fun id=>by
  rcases zdR zJ.zero (fun t=>decide (t.id = id)) (zb x).towns with h | h
  ·unfold zas
   rw [h]; decide
  ·obtain ⟨i,hi,e⟩:=zeJ.1 h
   have h5:=zal x;have h1:=ziy x i (by omega);unfold zas;rw [<- e];have:=zeU h1.1;exact ⟨by show (zbt i).length <= _; unfold zbt; simp,by omega⟩
 s:=fun id=>by
  rcases zdR zz.zero (fun t=>decide (t.id = id)) (zb x).streets with h | h
  ·unfold zn
   rw [h]; decide
  ·obtain ⟨i,hi,e⟩:=zcr.1 h
   have h7:=zah x;have h1:=zhd x i (by omega);unfold zn;rw [<- e];have a1:=zeU h1.1;have a2:=zeU h1.2.1;have a3:=zeU h1.2.2.1;have a4:=ztj x i;exact ⟨by omega,by omega,by omega,by omega⟩
 p:=fun p hp=>by
  have hf:=(zbv x).p p hp;obtain ⟨t,i',hi,hid,hb⟩:=zcx x p hp;have hs:=zcU x t p hb;have h5:=zal x;have h7:=zah x;refine ⟨hf.2.1,hf.2.2.1,hf.2.2.2.1,hf.2.2.2.2.1,?_,?_,?_,?_⟩
  ·cases hb with
   | street i k num seq letter unit hk hn hl hu hs=>unfold zW; rw [if_neg (by simp only; omega)]; simp
   | box i t bx seq ht hb hs=>unfold zW; simp
  ·cases hb with
   | street i k num seq letter unit hk hn hl hu hs=>unfold zW; rw [if_neg (by simp only; omega)]; simp; omega
   | box i t bx seq ht hb hs=>unfold zW; simp; omega
  ·rw [hs.2.1,zdO x t hs.1]
   exact (ziy x t (by omega)).2.2.1
  ·intro h0
   cases hb with
   | street i k num seq letter unit hk hn hl hu hs=>
    simp only;rw [zcH x k hk];exact (zhd x k (by omega)).2.2.2.1
   | box i t bx seq ht hb hs=>exact absurd rfl h0
def zsI (f : zw) (p : zh) : zj:=(zdD f p.town p.street (zW p)).1
def zxl (f : zw) (p : zh) : List ByteArray:=
 [zao p.number,p.letter,(zn f p.street).1.pre,(zn f p.street).1.name,(zn f p.street).1.suffix,p.unit,zao p.box,(zas f p.town).1.name,(zas f p.town).1.region,(zsI f p).code]
def zX (f : zw) (p : zh) (k : Nat) : ByteArray:=(zxl f p).getD (k - 1) ⟨#[]⟩
def zcT (f : zw) (p : zh) : Int:=(zas f p.town).1.country
structure zsj (t : Nat) (v : Nat -> ByteArray) : Prop where
 tf : ∀ k : Nat,1 <= k -> k <= 10 -> tf (zx t : Nat) (k : Int) (v k) = true
 town : (v 8).size ≠ 0
 code : (v 10).size ≠ 0
 fit : ((v 7).size ≠ 0 /\ (v 1).size = 0 /\ (v 2).size = 0 /\ (v 3).size = 0 /\ (v 4).size = 0 /\ (v 5).size = 0) \/ ((v 7).size = 0 /\ (v 1).size ≠ 0 /\ (v 4).size ≠ 0)
 c1 : zx t = 1 -> (v 2).size = 0
 c2 : zx t = 2 -> (v 3).size = 0 /\ (v 9).size = 0
 c3 : zx t = 3 -> (v 3).size = 0 /\ (v 9).size = 0 /\ (v 6).size = 0
theorem zsj.right {t : Nat} {v : Nat -> ByteArray} (h : zsj t v) : zR (zx t : Nat) (zm v) = true:=by
 refine (zeP _ _).2 ⟨fun k h1 h2 hz=>zvV (h.tf k h1 h2) hz,?_⟩;have e1 : zgz v 1 = decide ((v 1).size ≠ 0):=rfl;have e2 : zgz v 2 = decide ((v 2).size ≠ 0):=rfl;have e3 : zgz v 3 = decide ((v 3).size ≠ 0):=rfl;have e4 : zgz v 4 = decide ((v 4).size ≠ 0):=rfl;have e5 : zgz v 5 = decide ((v 5).size ≠ 0):=rfl;have e6 : zgz v 6 = decide ((v 6).size ≠ 0):=rfl;have e7 : zgz v 7 = decide ((v 7).size ≠ 0):=rfl;have e8 : zgz v 8 = decide ((v 8).size ≠ 0):=rfl;have e9 : zgz v 9 = decide ((v 9).size ≠ 0):=rfl;have e10 : zgz v 10 = decide ((v 10).size ≠ 0):=rfl;have hc:=zkp t;have h8:=h.town;have hc1:=h.c1;have hc2:=h.c2;have hc3:=h.c3;unfold zmu zdY;rw [e1,e2,e3,e4,e5,e6,e7,e8,e9,e10];have hcc : zx t = 1 \/ zx t = 2 \/ zx t = 3:=by omega
 rcases hcc with hcc | hcc | hcc <;> rcases h.fit with hf | hf <;> simp_all
theorem zsj.small {t : Nat} {v : Nat -> ByteArray} (h : zsj t v) : zH (zm v):=by
 intro p hp;obtain ⟨j,h1,h2,-,rfl⟩:=(zcO v 10 p).1 hp;have:=zeU (h.tf j h1 h2);exact ⟨by simp only; omega,zxA (h.tf j h1 h2),by simp,by simp; omega⟩
theorem zuM (x : zi) (t : Nat) (p : zh) (h : BasePt x t p) : zsI (zb x) p ∈ (zb x).ranges /\ (zsI (zb x) p).code ∈ zbt t:=by
 obtain ⟨g,hg,h1,h2,h3⟩:=znY x t p h;have hy:=zhB zj.zero (p:=zfl p.town p.street (zW p)) hg (by unfold zfl; rw [decide_eq_true h1,decide_eq_true h2,h3]; rfl);have hm:=zcp zj.zero (zfl p.town p.street (zW p)) _ hy;have hr : zsI (zb x) p ∈ (zb x).ranges:=hm.1;obtain ⟨t',ht',hs⟩:=zmM x _ hr;have hin : zfl p.town p.street (zW p) (zsI (zb x) p) = true:=hm.2;unfold zfl at hin;rw [Bool.and_eq_true,Bool.and_eq_true] at hin;have e1:=of_decide_eq_true hin.1.1;rw [hs.town,(zcU x t p h).2.1] at e1;obtain rfl : t' = t:=by omega
 exact ⟨hr,hs.code⟩
theorem zyo (x : zi) (t : Nat) (ht : t < zK x) (s : ByteArray) (h : s ∈ zbt t) : tf (zx t : Nat) 10 s = true /\ s.size ≠ 0:=by
 have h5:=zal x;exact (ziy x t (by omega)).2.2.2 s h
theorem zqG (x : zi) (t : Nat) (p : zh) (h : BasePt x t p) : zcT (zb x) p = (zx t : Nat):=by
 have hs:=zcU x t p h;unfold zcT;rw [hs.2.1,zdO x t hs.1];rfl
theorem zkk (x : zi) (t : Nat) (h : zx t ≠ 1) : (zbF x t).region.size = 0:=by
 unfold zbF zjV;simp only;rw [if_neg (by rintro rfl; exact h rfl)];rfl
theorem zzH (x : zi) (k : Nat) (h : zx (k % zK x) ≠ 1) : (zac x k).pre.size = 0:=by
 have : zaW x k = false:=by
  cases hp : zaW x k with
  | false=>rfl
  | true=>exact absurd (zlk x k hp) h
 unfold zac zeR;simp only;rw [this];rfl
theorem zeS (x : zi) : (zn (zb x) 0).1 = zz.zero:=by
 unfold zn;rcases zdR zz.zero (fun t=>decide (t.id = 0)) (zb x).streets with h | h
 ·exact h
 ·refine ziL _ _ _ ?_
  cases hb : (zA zz.zero (fun t=>decide (t.id = 0)) (zb x).streets).2 with
  | false=>rfl
  | true=>
   have hm:=zcp _ _ _ hb;obtain ⟨i,hi,e⟩:=zcr.1 hm.1;have h2:=of_decide_eq_true hm.2;rw [<- e,zfD] at h2;have:=zah x;omega
theorem zxR (x : zi) (t : Nat) (p : zh) (h : BasePt x t p) : zsj t (zX (zb x) p):=by
 have hs:=zcU x t p h;have hh:=(zuM x t p h).2;have h5:=zal x;have h7:=zah x;have hcd:=zyo x t hs.1 _ hh;obtain ⟨c,hc⟩:=zvY t;have hT : (zas (zb x) p.town).1 = zbF x t:=by rw [hs.2.1,zdO x t hs.1]
 have hq:=ziy x t (by omega);have hlt:=zvf c;rw [Bool.and_eq_true,<- hc] at hlt;have e8 : zX (zb x) p 8 = (zas (zb x) p.town).1.name:=rfl;have e9 : zX (zb x) p 9 = (zas (zb x) p.town).1.region:=rfl;have e10 : zX (zb x) p 10 = (zsI (zb x) p).code:=rfl;rw [hT] at e8 e9
 cases h with
 | street i k num seq letter unit hk hn hl hu hs=>
  have hS : (zn (zb x) (50 - (k : Int))).1 = zac x k:=by rw [zcH x k hk]
  have hd:=zoh c ⟨num,by omega⟩ (by simp only; omega);rw [<- hc] at hd;simp only [Bool.and_eq_true,decide_eq_true_eq] at hd;obtain ⟨s3,s4,s5,s6,-⟩:=zhd x k (by omega);generalize hp : (⟨900 - (i : Int),(10 + k % zK x : Nat),50 - (k : Int),(num : Nat),letter,unit,0,(seq : Nat)⟩ : zh) = p at *;have e1 : zX (zb x) p 1 = zao (num : Nat):=by rw [<- hp]; rfl
  have e2 : zX (zb x) p 2 = letter:=by rw [<- hp]; rfl
  have e3 : zX (zb x) p 3 = (zac x k).pre:=by rw [<- hS,<- hp]; rfl
  have e4 : zX (zb x) p 4 = (zac x k).name:=by rw [<- hS,<- hp]; rfl
  have e5 : zX (zb x) p 5 = (zac x k).suffix:=by rw [<- hS,<- hp]; rfl
  have e6 : zX (zb x) p 6 = unit:=by rw [<- hp]; rfl
  have e7 : zX (zb x) p 7 = ⟨#[]⟩:=by rw [<- hp]; rfl
  have hl' : letter.size = 0 \/ zx (k % zK x) ≠ 1:=by rcases hl with rfl | h; exact .inl rfl; exact .inr h.2
  have hu' : unit.size = 0 \/ zx (k % zK x) ≠ 3:=by rcases hu with rfl | h; exact .inl rfl; exact .inr h.2
  refine ⟨fun j h1 h2=>?_,by rw [e8]; exact hq.2.2.1,by rw [e10]; exact hcd.2,.inr ⟨by rw [e7]; rfl,by rw [e1]; exact hd.2.2,by rw [e4]; exact s6⟩,fun h1=>?_,fun h1=>?_,fun h1=>?_⟩
  ·obtain rfl | rfl | rfl | rfl | rfl | rfl | rfl | rfl | rfl | rfl : j = 1 \/ j = 2 \/ j = 3 \/ j = 4 \/ j = 5 \/ j = 6 \/ j = 7 \/ j = 8 \/ j = 9 \/ j = 10:=by omega
   ·rw [e1]; exact hd.1
   ·rw [e2]; rcases hl with rfl | ⟨rfl,-⟩; exact zer ..; exact hlt.1
   ·rw [e3]; exact s3
   ·rw [e4]; exact s4
   ·rw [e5]; exact s5
   ·rw [e6]; rcases hu with rfl | ⟨rfl,-⟩; exact zer ..; exact hlt.2
   ·rw [e7]; exact zer ..
   ·rw [e8]; exact hq.1
   ·rw [e9]; exact hq.2.1
   ·rw [e10]; exact hcd.1
  ·rw [e2]; omega
  ·rw [e3,e9]; exact ⟨zzH x k (by omega),zkk x _ (by omega)⟩
  ·rw [e3,e9,e6]; exact ⟨zzH x k (by omega),zkk x _ (by omega),by omega⟩
 | box i t bx seq ht hb hs=>
  have hd:=zoh c ⟨bx,by omega⟩ (by simp only; omega);rw [<- hc] at hd;simp only [Bool.and_eq_true,decide_eq_true_eq] at hd;have hS:=zeS x;generalize hp : (⟨900 - (i : Int),(10 + t : Nat),0,0,⟨#[]⟩,⟨#[]⟩,(bx : Nat),(seq : Nat)⟩ : zh) = p at *;have e1 : zX (zb x) p 1 = ⟨#[]⟩:=by rw [<- hp]; rfl
  have e2 : zX (zb x) p 2 = ⟨#[]⟩:=by rw [<- hp]; rfl
  have e3 : zX (zb x) p 3 = (zn (zb x) 0).1.pre:=by rw [<- hp]; rfl
  have e4 : zX (zb x) p 4 = (zn (zb x) 0).1.name:=by rw [<- hp]; rfl
  have e5 : zX (zb x) p 5 = (zn (zb x) 0).1.suffix:=by rw [<- hp]; rfl
  have e6 : zX (zb x) p 6 = ⟨#[]⟩:=by rw [<- hp]; rfl
  have e7 : zX (zb x) p 7 = zao (bx : Nat):=by rw [<- hp]; rfl
  rw [hS] at e3 e4 e5;refine ⟨fun j h1 h2=>?_,by rw [e8]; exact hq.2.2.1,by rw [e10]; exact hcd.2,.inl ⟨by rw [e7]; exact hd.2.2,by rw [e1]; rfl,by rw [e2]; rfl,by rw [e3]; rfl,by rw [e4]; rfl,by rw [e5]; rfl⟩,fun h1=>?_,fun h1=>?_,fun h1=>?_⟩
  ·obtain rfl | rfl | rfl | rfl | rfl | rfl | rfl | rfl | rfl | rfl : j = 1 \/ j = 2 \/ j = 3 \/ j = 4 \/ j = 5 \/ j = 6 \/ j = 7 \/ j = 8 \/ j = 9 \/ j = 10:=by omega
   ·rw [e1]; exact zer ..
   ·rw [e2]; exact zer ..
   ·rw [e3]; exact zer ..
   ·rw [e4]; exact zer ..
   ·rw [e5]; exact zer ..
   ·rw [e6]; exact zer ..
   ·rw [e7]; exact hd.2.1
   ·rw [e8]; exact hq.1
   ·rw [e9]; exact hq.2.1
   ·rw [e10]; exact hcd.1
  ·rw [e2]; rfl
  ·rw [e3,e9]; exact ⟨rfl,zkk x _ (by omega)⟩
  ·rw [e3,e9,e6]; exact ⟨rfl,zkk x _ (by omega),rfl⟩
theorem zeL (x : zi) (p : zh) (h : p ∈ (zb x).points) : zR (zcT (zb x) p) (zm (zX (zb x) p)) = true /\ zH (zm (zX (zb x) p)):=by
 obtain ⟨t,i,-,-,hb⟩:=zcx x p h;have ht:=zxR x t p hb;rw [zqG x t p hb];exact ⟨ht.right,ht.small⟩
theorem znZ (x : zi) (p : zh) (h : p ∈ (zb x).points) : 840 < p.id /\ p.id <= 900:=by
 obtain ⟨t,i,hi,hid,-⟩:=zcx x p h;omega
theorem zce (x : zi) : (zb x).points.Pairwise fun a b=>a.id ≠ b.id:=(zcP x (zaN x)).imp fun h=>h.1
end
end Go.Proofs.YtggimnndflkjkaaGreatDoor
