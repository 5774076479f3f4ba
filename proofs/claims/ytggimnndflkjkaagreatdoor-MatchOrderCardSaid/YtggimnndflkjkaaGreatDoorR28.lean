import Derived.Test.YtggimnndflkjkaaGreatDoorR01
import Derived.Test.YtggimnndflkjkaaGreatDoorR17
set_option linter.all false
set_option maxRecDepth 100000
set_option maxHeartbeats 0
namespace Go.Proofs.YtggimnndflkjkaaGreatDoor
section
open Go.RowKit
theorem zwd : ∀ j i : Fin 5,zjf (zjV j.val i.val) = true:=by decide +kernel
theorem zrj : ∀ j i j' i' : Fin 5,i ≠ i' -> ((zjV j.val i.val).country,(zjV j.val i.val).text) ≠ ((zjV j'.val i'.val).country,(zjV j'.val i'.val).text):=by decide +kernel
def ztH (c : Int) (s : zz) : Bool:=zcn s.id && ((decide (s.pre.size = 0) || (decide (c = 1) && zcg s.pre (zaQ 1 s.pre))) &&
  (zci s.name && ((decide (s.suffix.size = 0) || zcg s.suffix (zaQ 2 s.suffix)) && (decide (s.text.size <= 40) && (decide (s.others.length <= 8) && (s.others.all zci && decide (zeI s).Nodup))))))
theorem zpn : ∀ t : Fin 5,∀ i : Fin 7,∀ pre suf : Bool,(pre = true -> zx t.val = 1) -> ztH (zx t.val : Nat) (zeR t.val pre suf i.val) = true:=by decide +kernel
def zpt (pre suf : Bool) (i : Nat) : List ByteArray:=(zeR 0 pre suf i).text :: (zeR 0 pre suf i).others
theorem znM : ∀ i i' : Fin 7,∀ pre suf pre' suf' : Bool,i ≠ i' -> (zpt pre suf i.val).all (fun a=>!zcg a (zpt pre' suf' i'.val)) = true:=by decide +kernel
theorem zpu (i i' : Fin 7) (pre suf pre' suf' : Bool) (h : i ≠ i') (a : ByteArray) (ha : a ∈ zpt pre suf i.val) : a ∉ zpt pre' suf' i'.val:=by
 have:=List.all_eq_true.1 (znM i i' pre suf pre' suf' h) a ha;intro hm;rw [zih.2 hm] at this;cases this
theorem zal (x : zi) : 1 <= zK x /\ zK x <= 5:=by unfold zK; omega
theorem zah (x : zi) : zau x <= 7:=by unfold zau; omega
theorem zwc (x : zi) (i : Nat) (h : i < 5) : zjf (zbF x i) = true:=zwd ⟨_,Nat.mod_lt _ (by omega)⟩ ⟨i,h⟩
theorem zlK (x : zi) (i k : Nat) (hi : i < 5) (hk : k < 5) (h : i ≠ k) : zix (zbF x i) (zbF x k):=by
 refine ⟨?_,zrj ⟨_,Nat.mod_lt _ (by omega)⟩ ⟨i,hi⟩ ⟨_,Nat.mod_lt _ (by omega)⟩ ⟨k,hk⟩ (by simp; omega)⟩;show ((10 + i : Nat) : Int) ≠ ((10 + k : Nat) : Int);omega
theorem zrG {α : Type} {p : α -> Bool} {a : α} : ∀ {l : List α},a ∈ l -> p a = true -> (∀ b ∈ l,p b = true -> b = a) -> l.find? p = some a
 | [],h,_,_=>by cases h
 | b :: l,h,ha,hu=>by
  rw [List.find?_cons];cases hb : p b
  ·rcases List.mem_cons.1 h with rfl | h
   ·rw [ha] at hb; cases hb
   ·exact zrG h ha fun c hc=>hu c (List.mem_cons_of_mem _ hc)
  ·rw [hu b (List.mem_cons_self ..) hb]
theorem zfM {α : Type} (z : α) {p : α -> Bool} {a : α} : ∀ {l : List α},a ∈ l -> p a = true -> (∀ b ∈ l,p b = true -> b = a) -> zA z p l = (a,true)
 | [],h,_,_=>by cases h
 | b :: l,h,ha,hu=>by
  rw [zA];cases hb : p b
  ·rcases List.mem_cons.1 h with rfl | h
   ·rw [ha] at hb; cases hb
   ·simp only [Bool.false_eq_true,if_false]
    exact zfM z h ha fun c hc=>hu c (List.mem_cons_of_mem _ hc)
  ·rw [hu b (List.mem_cons_self ..) hb]; simp
theorem zeJ {x : zi} {t : zJ} : t ∈ (zb x).towns ↔ ∃ i,i < zK x /\ zbF x i = t:=by
 simp [zb]
theorem zcr {x : zi} {s : zz} : s ∈ (zb x).streets ↔ ∃ i,i < zau x /\ zac x i = s:=by
 simp [zb]
theorem zsh (x : zi) (i : Nat) : (zbF x i).id = (10 + i : Nat):=rfl
theorem zfD (x : zi) (i : Nat) : (zac x i).id = 50 - (i : Int):=rfl
theorem zgM (x : zi) (i : Nat) (h : i < zK x) : zS (zb x).towns.reverse ((10 + i : Nat) : Int) = some (zbF x i):=by
 unfold zS;refine zrG (List.mem_reverse.2 (zeJ.2 ⟨i,h,rfl⟩)) (decide_eq_true rfl) fun b hb he=>?_;obtain ⟨k,hk,rfl⟩:=zeJ.1 (List.mem_reverse.1 hb);have:=of_decide_eq_true he;rw [zsh] at this;obtain rfl : k = i:=by omega
 rfl
theorem zdO (x : zi) (i : Nat) (h : i < zK x) : zas (zb x) ((10 + i : Nat) : Int) = (zbF x i,true):=by
 unfold zas;refine zfM _ (zeJ.2 ⟨i,h,rfl⟩) (decide_eq_true rfl) fun b hb he=>?_;obtain ⟨k,hk,rfl⟩:=zeJ.1 hb;have:=of_decide_eq_true he;rw [zsh] at this;obtain rfl : k = i:=by omega
 rfl
theorem zcH (x : zi) (i : Nat) (h : i < zau x) : zn (zb x) (50 - (i : Int)) = (zac x i,true):=by
 unfold zn;refine zfM _ (zcr.2 ⟨i,h,rfl⟩) (decide_eq_true rfl) fun b hb he=>?_;obtain ⟨k,hk,rfl⟩:=zcr.1 hb;have:=of_decide_eq_true he;rw [zfD] at this;obtain rfl : k = i:=by omega
 rfl
theorem zlk (x : zi) (i : Nat) (h : zaW x i = true) : zx (i % zK x) = 1:=by
 unfold zaW at h;simp at h;exact h.1
theorem zfs (x : zi) (i : Nat) : i % zK x < zK x:=Nat.mod_lt _ (zal x).1
theorem zrd (x : zi) (i : Nat) (h : i < zau x) : zfC (zb x).towns.reverse (zac x i) = true:=by
 have ht:=zfs x i;have h5:=(zal x).2;have h7:=zah x;have hs:=zpn ⟨i % zK x,by omega⟩ ⟨i,by omega⟩ (zaW x i) (zbp x i) (zlk x i);have hf : zS (zb x).towns.reverse (zac x i).town = some (zbF x (i % zK x)):=zgM x _ ht;unfold zfC;rw [hf];simp only [Option.isSome_some,Bool.true_and,Option.getD_some];exact hs
theorem zid (x : zi) (i : Nat) (y : zdb) (h : y ∈ zeI (zac x i)) : y.2 ∈ zpt (zaW x i) (zbp x i) i:=by
 unfold zeI at h;rcases List.mem_cons.1 h with rfl | h
 ·exact List.mem_cons_self ..
 ·obtain ⟨a,ha,rfl⟩:=List.mem_map.1 h
  exact List.mem_cons_of_mem _ ha
theorem ziv (x : zi) (i k : Nat) (hi : i < 7) (hk : k < 7) (h : i ≠ k) : zhK (zac x i) (zac x k):=by
 refine ⟨by rw [zfD,zfD]; omega,fun y hy hm=>?_⟩;exact zpu ⟨i,hi⟩ ⟨k,hk⟩ _ _ _ _ (by simp; omega) y.2 (zid x i y hy) (zid x k y hm)
theorem zfq {α : Type} {R : α -> α -> Prop} (f : Nat -> α) (n : Nat) (h : ∀ i k,i < k -> k < n -> R (f i) (f k)) : ((List.range n).map f).Pairwise R:=by
 rw [List.pairwise_map];have:=List.pairwise_lt_range (n:=n);refine List.Pairwise.imp_of_mem (fun {a b} ha hb hab=>?_) this;exact h a b hab (List.mem_range.1 hb)
end
section
open Go.RowKit
theorem zrM {α β : Type} [DecidableEq α] {a : α} {b : β} : ∀ {M : List (α × β)},(a,b) ∈ M -> (∀ q ∈ M,q.1 = a -> q.2 = b) -> zbR a M = some b
 | [],h,_=>by cases h
 | q :: M,h,hu=>by
  rw [zbR];by_cases e : q.1 = a
  ·rw [if_pos e,hu q (List.mem_cons_self ..) e]
  ·rw [if_neg e]
   rcases List.mem_cons.1 h with rfl | h
   ·exact absurd rfl e
   ·exact zrM h fun q hq=>hu q (List.mem_cons_of_mem _ hq)
def zji (x : zi) : List (Int × Int):=((zb x).streets.map fun s=>(s.id,s.town)).reverse
theorem zyf (x : zi) (i : Nat) (h : i < zau x) : zbR (50 - (i : Int)) (zji x) = some ((10 + i % zK x : Nat) : Int):=by
 unfold zji;refine zrM (List.mem_reverse.2 (List.mem_map.2 ⟨zac x i,zcr.2 ⟨i,h,rfl⟩,rfl⟩)) fun q hq he=>?_;obtain ⟨s,hs,rfl⟩:=List.mem_map.1 (List.mem_reverse.1 hq);obtain ⟨k,hk,rfl⟩:=zcr.1 hs;simp only [zfD] at he;obtain rfl : k = i:=by omega
 rfl
theorem zhB {α : Type} (z : α) {p : α -> Bool} {a : α} : ∀ {l : List α},a ∈ l -> p a = true -> (zA z p l).2 = true
 | [],h,_=>by cases h
 | b :: l,h,ha=>by
  rw [zA];cases hb : p b
  ·rcases List.mem_cons.1 h with rfl | h
   ·rw [ha] at hb; cases hb
   ·simp only [Bool.false_eq_true,if_false]
    exact zhB z h ha
  ·simp
structure zgq (t : Nat) (g : zj) : Prop where
 town : g.town = (10 + t : Nat)
 code : g.code ∈ zbt t
 low : 1 <= g.low
 high : g.high <= 999999
 some_ : zhJ g.low g.high g.parity = true
 route : zcn g.route = true
 street : zam g.street
theorem zel {n : Int} (h1 : 1 <= n) (h2 : n <= 999999) : zcn n = true:=by
 unfold zcn;rw [decide_eq_true h1,decide_eq_true h2]; rfl
theorem zmR (i : Nat) (h : i < 5) : zgq i (zeX i):=
 ⟨rfl,by simp [zeX,zbt],by simp [zeX],by simp [zeX],by simp [zeX,zhJ],zel (by simp [zeX]; omega) (by simp [zeX]; omega),by simp [zeX,zam]⟩
theorem zpa (t cut i : Nat) (hc : cut < 100) (hi : i < 7) : ∀ g ∈ zeO t cut i,zgq t g /\ g.street = 50 - (i : Int):=by
 intro g hg;unfold zeO at hg;rcases List.mem_append.1 hg with hg | hg
 ·split at hg
  ·rename_i h0
   obtain rfl:=mS.1 hg;exact ⟨⟨rfl,by simp [zbt],by simp,by simp; omega,by simp [zhJ]; omega,zel (by simp; omega) (by simp; omega),by simp [zam]; omega⟩,rfl⟩
  ·cases hg
 ·rcases List.mem_cons.1 hg with rfl | hg
  ·exact ⟨⟨rfl,by simp [zbt],by simp; omega,by simp,by simp [zhJ]; omega,zel (by simp; omega) (by simp; omega),by simp [zam]; omega⟩,rfl⟩
  ·obtain rfl:=mS.1 hg
   exact ⟨⟨rfl,by simp [zbt],by simp; omega,by simp,by simp [zhJ]; omega,zel (by simp) (by simp),by simp [zam]; omega⟩,rfl⟩
theorem zev {x : zi} {g : zj} : g ∈ (zb x).ranges ↔ (∃ i,i < zK x /\ zeX i = g) \/ ∃ i,i < zau x /\ g ∈ zda x i:=by
 simp [zb]
theorem zoZ (x : zi) (t : Nat) (g : zj) (ht : t < zK x) (h : zgq t g) (hs : zcE (zji x) g.street g.town = true) : zfW (zb x).towns.reverse (zji x) g = true:=by
 have hf : zS (zb x).towns.reverse g.town = some (zbF x t):=by rw [h.town]; exact zgM x t ht
 unfold zfW;rw [hf,hs,decide_eq_true h.low,decide_eq_true h.high,h.some_,h.route];simp only [Option.isSome_some,Bool.true_and,Option.getD_some,Bool.and_true];exact zih.2 h.code
theorem zkV (S : List (Int × Int)) (t : Int) : zcE S 0 t = true:=rfl
theorem zic (x : zi) (i : Nat) (h : i < zau x) : zcE (zji x) (50 - (i : Int)) (10 + i % zK x : Nat) = true:=by
 unfold zcE;rw [zyf x i h,decide_eq_true rfl,Bool.or_true]
theorem zdU (x : zi) (i : Nat) (h : i < 7) : ∀ g ∈ zda x i,zgq (i % zK x) g /\ g.street = 50 - (i : Int):=zpa _ _ _ (Nat.mod_lt _ (by omega)) h
theorem zjP (x : zi) : ∀ g ∈ (zb x).ranges,zfW (zb x).towns.reverse (zji x) g = true:=by
 intro g hg;have h5:=(zal x).2;have h7:=zah x;rcases zev.1 hg with ⟨i,hi,rfl⟩ | ⟨i,hi,hg⟩
 ·exact zoZ x i _ hi (zmR i (by omega)) (zkV _ _)
 ·obtain ⟨h1,h2⟩:=zdU x i (by omega) g hg
  refine zoZ x _ g (zfs x i) h1 ?_;rw [h2,h1.town];exact zic x i hi
theorem zlZ (a b : zj) (h1 : a.parity ≠ b.parity) (h2 : a.parity ≠ 0) (h3 : b.parity ≠ 0) : zle a b = false:=by
 unfold zle;rw [if_pos ⟨h1,h2,h3⟩]
theorem zlY (a b : zj) (h : b.high < a.low) : zle a b = false:=by
 unfold zle
 split
 ·rfl
 ·unfold zhJ
  rw [if_pos (by omega)]
theorem znD (t cut i : Nat) : (zeO t cut i).Pairwise zex:=by
 unfold zeO
 have e : zex ⟨(10 + t : Nat),50 - (i : Int),(cut + 1 : Nat),101,1,zcb (zx t) (t + 1),(101 + i : Nat)⟩ ⟨(10 + t : Nat),50 - (i : Int),(cut + 1 : Nat),102,2,zcb (zx t) t,200⟩:=
  fun _=>zlZ _ _ (by simp) (by simp) (by simp)
 split
 ·refine List.pairwise_append.2 ⟨List.pairwise_singleton ..,by simpa using e,fun a ha b hb=>?_⟩
  obtain rfl:=mS.1 ha;intro _;refine zlY _ _ ?_;rcases List.mem_cons.1 hb with rfl | hb
  ·simp; omega
  ·obtain rfl:=mS.1 hb
   simp; omega
 ·simpa using e
theorem zhS (x : zi) : (zb x).ranges.Pairwise zex:=by
 have h7:=zah x;unfold zb;simp only;refine List.pairwise_append.2 ⟨?_,?_,fun a ha b hb=>?_⟩
 ·refine zfq _ _ fun i k hik _ e=>?_
  exfalso;have : ((10 + i : Nat) : Int) = (10 + k : Nat):=congrArg Prod.fst e;omega
 ·rw [List.pairwise_flatMap]
  refine ⟨fun i _=>znD _ _ _,?_⟩;refine List.Pairwise.imp_of_mem (fun {i k} hi hk hik=>?_) (List.pairwise_lt_range (n:=zau x));intro a ha b hb e;exfalso;have e2 : a.street = b.street:=congrArg Prod.snd e;rw [(zdU x i (by have:=List.mem_range.1 hi; omega) a ha).2,(zdU x k (by have:=List.mem_range.1 hk; omega) b hb).2] at e2;omega
 ·intro e
  exfalso;obtain ⟨i,hi,rfl⟩:=List.mem_map.1 ha;obtain ⟨k,hk,hb⟩:=List.mem_flatMap.1 hb;have e2 : (0 : Int) = b.street:=congrArg Prod.snd e;have hk7:=List.mem_range.1 hk;rw [(zdU x k (by omega) b hb).2] at e2;omega
theorem zfy (x : zi) : ∀ m,∀ p ∈ zba x m,∃ i,i < m /\ p = zcd x i (x.points.getD i 0)
 | 0,p,h=>by cases h
 | m + 1,p,h=>by
  rw [zba,zgK] at h
  split at h
  ·obtain ⟨i,hi,e⟩:=zfy x m p h
   exact ⟨i,by omega,e⟩
  ·rcases List.mem_append.1 h with h | h
   ·obtain ⟨i,hi,e⟩:=zfy x m p h
    exact ⟨i,by omega,e⟩
   ·exact ⟨m,by omega,mS.1 h⟩
theorem zpO (x : zi) (i n : Nat) : (zcd x i n).id = 900 - (i : Int):=by
 unfold zcd;simp only
 split <;> rfl
theorem zrz (x : zi) (i n : Nat) : (zcd x i n).seq = (zen i n : Nat):=by
 unfold zcd;simp only
 split <;> rfl
theorem zcP (x : zi) : ∀ m,(zba x m).Pairwise ziX
 | 0=>List.Pairwise.nil
 | m + 1=>by
  rw [zba,zgK]
  split
  ·exact zcP x m
  ·rename_i hn
   refine List.pairwise_append.2 ⟨zcP x m,List.pairwise_singleton ..,fun u hu p hp=>?_⟩;obtain rfl:=mS.1 hp;refine ⟨?_,fun e=>hn (List.any_eq_true.2 ⟨u,hu,decide_eq_true e⟩),?_⟩
   ·obtain ⟨i,hi,rfl⟩:=zfy x m u hu
    rw [zpO,zpO]; omega
   ·obtain ⟨i,hi,rfl⟩:=zfy x m u hu
    rw [zrz,zrz];unfold zen;omega
theorem zjD (x : zi) : ∀ m,(zba x m).length <= m
 | 0=>lQ _
 | m + 1=>by
  have:=zjD x m;rw [zba,zgK]
  split
  ·omega
  ·rw [List.length_append,List.length_singleton]; omega
inductive BasePt (x : zi) : Nat -> zh -> Prop
 | street (i k num seq : Nat) (letter unit : ByteArray) (hk : k < zau x) (hn : 1 <= num /\ num <= 100) (hl : letter = ⟨#[]⟩ \/ (letter = ⟨#[66]⟩ /\ zx (k % zK x) ≠ 1)) (hu : unit = ⟨#[]⟩ \/ (unit = ⟨#[50]⟩ /\ zx (k % zK x) ≠ 3)) (hs : 1 <= seq /\ seq <= 999999) :
   BasePt x (k % zK x) ⟨900 - (i : Int),(10 + k % zK x : Nat),50 - (k : Int),(num : Nat),letter,unit,0,(seq : Nat)⟩
 | box (i t bx seq : Nat) (ht : t < zK x) (hb : 1 <= bx /\ bx <= 40) (hs : 1 <= seq /\ seq <= 999999) : BasePt x t ⟨900 - (i : Int),(10 + t : Nat),0,0,⟨#[]⟩,⟨#[]⟩,(bx : Nat),(seq : Nat)⟩
theorem zye (x : zi) (i n : Nat) (hi : i < 60) : ∃ t,BasePt x t (zcd x i n):=by
 have hs : 1 <= zen i n /\ zen i n <= 999999:=by unfold zen; omega
 unfold zcd;simp only
 split
 ·rename_i hk
  refine ⟨_,.street i _ _ _ _ _ hk (by omega) ?_ ?_ hs⟩
  ·split
   ·rename_i h; exact .inr ⟨rfl,h.1⟩
   ·exact .inl rfl
  ·split
   ·rename_i h; exact .inr ⟨rfl,h.1⟩
   ·exact .inl rfl
 ·exact ⟨_,.box i _ _ _ (Nat.mod_lt _ (zal x).1) (by omega) hs⟩
theorem zcx (x : zi) (p : zh) (h : p ∈ (zb x).points) : ∃ (t : Nat) (i : Nat),i < 60 /\ p.id = 900 - (i : Int) /\ BasePt x t p:=by
 obtain ⟨i,hi,rfl⟩:=zfy x _ p h;have : i < 60:=by unfold zaN at hi; omega
 obtain ⟨t,ht⟩:=zye x i (x.points.getD i 0) this;exact ⟨t,i,this,zpO ..,ht⟩
theorem zwZ : zbW ⟨#[66]⟩ = true:=by decide +kernel
theorem zxD : zaF ⟨#[50]⟩ 7 = true:=by decide +kernel
theorem zsr (x : zi) (t : Nat) (p : zh) (h : BasePt x t p) : zaZ p (zx t : Nat) = true:=by
 cases h with
 | street i k num seq letter unit hk hn hl hu hs=>
  have h7:=zah x;have e0 : ¬ (50 - (k : Int)) = 0:=by omega
  unfold zaZ;rw [if_neg e0,if_neg (by rw [zel (by simp; omega) (by simp; omega)]; simp),if_neg ?_]
  ·rcases hu with rfl | ⟨rfl,hu⟩
   ·rfl
   ·rw [zxD,decide_eq_true (show ((zx (k % zK x) : Nat) : Int) ≠ 3 by omega)]
    simp
  ·rcases hl with rfl | ⟨rfl,hl⟩
   ·simp [ByteArray.size]
   ·rw [decide_eq_false (show ¬ ((zx (k % zK x) : Nat) : Int) = 1 by omega)]
    simp only;rw [zwZ];simp
 | box i t bx seq ht hb hs=>
  unfold zaZ;rw [if_pos rfl,zel (by simp; omega) (by simp; omega)];rfl
theorem znY (x : zi) (t : Nat) (p : zh) (h : BasePt x t p) : ∃ g ∈ (zb x).ranges,g.town = p.town /\ g.street = p.street /\ zbf g (zW p) = true:=by
 cases h with
 | street i k num seq letter unit hk hn hl hu hs=>
  have h7:=zah x;have e0 : ¬ (50 - (k : Int)) = 0:=by omega
  have en : zW ⟨900 - (i : Int),(10 + k % zK x : Nat),50 - (k : Int),(num : Nat),letter,unit,0,(seq : Nat)⟩ = (num : Nat):=by
   unfold zW; rw [if_neg e0]
  rw [en];by_cases hc : num <= zej x.cuts k % 100
  ·refine ⟨⟨(10 + k % zK x : Nat),50 - (k : Int),1,(zej x.cuts k % 100 : Nat),0,zcb (zx (k % zK x)) (k % zK x),(100 + k : Nat)⟩,zev.2 (.inr ⟨k,hk,?_⟩),rfl,rfl,?_⟩
   ·unfold zda zeO
    rw [if_pos (by omega)];simp
   ·unfold zbf
    rw [if_neg (by simp; omega),if_pos rfl]
  ·by_cases ho : num % 2 = 1
   ·refine ⟨⟨(10 + k % zK x : Nat),50 - (k : Int),(zej x.cuts k % 100 + 1 : Nat),101,1,zcb (zx (k % zK x)) (k % zK x + 1),(101 + k : Nat)⟩,zev.2 (.inr ⟨k,hk,?_⟩),rfl,rfl,?_⟩
    ·unfold zda zeO
     simp
    ·unfold zbf
     rw [if_neg (by simp; omega),if_neg (by simp),if_pos rfl];unfold zpC;simp; omega
   ·refine ⟨⟨(10 + k % zK x : Nat),50 - (k : Int),(zej x.cuts k % 100 + 1 : Nat),102,2,zcb (zx (k % zK x)) (k % zK x),200⟩,zev.2 (.inr ⟨k,hk,?_⟩),rfl,rfl,?_⟩
    ·unfold zda zeO
     simp
    ·unfold zbf
     rw [if_neg (by simp; omega),if_neg (by simp),if_neg (by simp),if_pos rfl];unfold zpC;simp; omega
 | box i t bx seq ht hb hs=>
  refine ⟨zeX t,zev.2 (.inl ⟨t,ht,rfl⟩),rfl,rfl,?_⟩;unfold zbf zeX zW;simp; omega
theorem zcU (x : zi) (t : Nat) (p : zh) (h : BasePt x t p) : t < zK x /\ p.town = (10 + t : Nat) /\ zcE (zji x) p.street p.town = true /\ zcn p.seq = true:=by
 cases h with
 | street i k num seq letter unit hk hn hl hu hs=>exact ⟨zfs x k,rfl,zic x k hk,zel (by simp; omega) (by simp; omega)⟩
 | box i t bx seq ht hb hs=>exact ⟨ht,rfl,zkV _ _,zel (by simp; omega) (by simp; omega)⟩
theorem zjO (x : zi) : ∀ p ∈ (zb x).points,zil (zb x).towns.reverse (zji x) (zb x).ranges p = true:=by
 intro p hp;obtain ⟨t,i,hi,hid,hb⟩:=zcx x p hp;obtain ⟨ht,htw,hin,hsq⟩:=zcU x t p hb;obtain ⟨g,hg,h1,h2,h3⟩:=znY x t p hb;have hf : zS (zb x).towns.reverse p.town = some (zbF x t):=by rw [htw]; exact zgM x t ht
 have hpl:=zsr x t p hb;unfold zil;rw [hf,hin,hsq,zel (by omega) (by omega)];simp only [Option.isSome_some,Bool.true_and,Option.getD_some,Bool.and_true];rw [show (zbF x t).country = (zx t : Nat) from rfl,hpl];unfold zgg;rw [zhB zj.zero (a:=g) _ h3]
 ·rfl
 ·unfold zdT
  exact List.mem_filter.2 ⟨hg,by rw [h1,h2]; simp⟩
theorem zkN {α β : Type} (f : α -> List β) (k : Nat) : ∀ l : List α,(∀ a ∈ l,(f a).length <= k) -> (l.flatMap f).length <= l.length * k
 | [],_=>by simp
 | a :: l,h=>by
  rw [List.flatMap_cons,List.length_append,List.length_cons,Nat.succ_mul];have h1:=h a (List.mem_cons_self ..);have h2:=zkN f k l fun b hb=>h b (List.mem_cons_of_mem _ hb);omega
theorem zqP (t cut i : Nat) : (zeO t cut i).length <= 3:=by
 unfold zeO
 split <;> simp
theorem zuo (x : zi) : (zb x).towns.length <= 5 /\ (zb x).streets.length <= 7 /\ (zb x).ranges.length <= 26 /\ (zb x).points.length <= 60:=by
 have h5:=(zal x).2;have h7:=zah x;have hr:=zkN (zda x) 3 (List.range (zau x)) fun i _=>zqP _ _ _;have hp:=zjD x (zaN x);have hn : zaN x <= 60:=by unfold zaN; omega
 rw [List.length_range] at hr;unfold zb;simp only [List.length_map,List.length_range,List.length_append];omega
theorem zmZ (x : zi) : znU (zb x) where
 few:=by have:=zuo x; omega
 t1:=fun t ht=>by
  obtain ⟨i,hi,rfl⟩:=zeJ.1 ht;exact zwc x i (by have:=zal x; omega)
 t2:=zfq _ _ fun i k hik hk=>zlK x i k (by have:=zal x; omega) (by have:=zal x; omega) (by omega)
 s1:=fun s hs=>by
  obtain ⟨i,hi,rfl⟩:=zcr.1 hs;exact zrd x i hi
 s2:=zfq _ _ fun i k hik hk=>ziv x i k (by have:=zah x; omega) (by have:=zah x; omega) (by omega)
 r1:=zjP x
 r2:=zhS x
 p1:=zjO x
 p2:=zcP x _
theorem zeE (x : zi) : zae (zb x) = true:=zxF (zmZ x)
end
end Go.Proofs.YtggimnndflkjkaaGreatDoor
