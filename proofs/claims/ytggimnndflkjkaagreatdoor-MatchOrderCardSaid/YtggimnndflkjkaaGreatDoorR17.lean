import Derived.Test.YtggimnndflkjkaaGreatDoorR01
import Derived.Test.YtggimnndflkjkaaGreatDoorR08
import Derived.Test.YtggimnndflkjkaaGreatDoorR16
import Derived.Laws.IdiomStrings
set_option linter.all false
set_option maxRecDepth 100000
set_option maxHeartbeats 0
namespace Go.Proofs.YtggimnndflkjkaaGreatDoor
section
open Go.RowKit
theorem zmS : ∀ (l seen : List zJ),(∀ a t b,l = a ++ t :: b -> zgk (a.reverse ++ seen) t = true) -> zcF seen l = true
 | [],_,_=>rfl
 | t :: l,seen,h=>by
  rw [zcF,if_pos (by simpa using h [] t l rfl)]
  exact zmS l (t :: seen) fun a u b e=>by
   have:=h (t :: a) u b (by rw [e]; rfl);simpa using this
def zjf (t : zJ) : Bool:=zcn t.id && (decide (1 <= t.country) && (decide (t.country <= 3) && (zci t.name && ((decide (t.region.size = 0) || (decide (t.country = 1) && zaF t.region 8)) && (decide (t.text.size <= 40) && zkE t)))))
def zix (u t : zJ) : Prop:=u.id ≠ t.id /\ (u.country,u.text) ≠ (t.country,t.text)
theorem zui {α : Type} {l : List α} {p : α -> Bool} (h : ∀ x ∈ l,p x = false) : l.any p = false:=by
 rw [List.any_eq_false];exact fun x hx=>by rw [h x hx]; simp
theorem zwb {seen : List zJ} {t : zJ} (h : zjf t = true) (ha : ∀ u ∈ seen,zix u t) : zgk seen t = true:=by
 unfold zjf at h;unfold zgk;simp only [Bool.and_eq_true] at h ⊢;obtain ⟨h1,h2,h3,h4,h5,h6,h7⟩:=h;refine ⟨?_,h1,h2,h3,h4,h5,h6,?_,h7⟩
 ·rw [zui (fun u hu=>decide_eq_false (ha u hu).1)]; rfl
 ·rw [zui (fun u hu=>decide_eq_false (ha u hu).2)]; rfl
theorem ztK {l : List zJ} (h1 : ∀ t ∈ l,zjf t = true) (h2 : l.Pairwise zix) : zcF [] l = true:=
 zmS l [] fun a t b e=>by
  subst e;refine zwb (h1 t (by simp)) fun u hu=>?_;rw [List.append_nil,List.mem_reverse] at hu;exact (List.pairwise_append.1 h2).2.2 u hu t (List.mem_cons_self ..)
def zeI (s : zz) : List zdb:=(s.town,s.text) :: s.others.map fun a=>(s.town,a)
def zfC (towns : List zJ) (s : zz) : Bool:=
 (zS towns s.town).isSome && (zcn s.id && ((decide (s.pre.size = 0) || (decide (((zS towns s.town).getD zJ.zero).country = 1) && zcg s.pre (zaQ 1 s.pre))) &&
  (zci s.name && ((decide (s.suffix.size = 0) || zcg s.suffix (zaQ 2 s.suffix)) && (decide (s.text.size <= 40) && (decide (s.others.length <= 8) && (s.others.all zci && decide (zeI s).Nodup)))))))
def zhK (u s : zz) : Prop:=u.id ≠ s.id /\ ∀ x ∈ zeI u,x ∉ zeI s
theorem zlf (town : Int) : ∀ (l : List ByteArray) (L : List zdb),l.all zci = true -> (l.map fun a=>(town,a)).Nodup -> (∀ a ∈ l,(town,a) ∉ L) -> zem town L l = some ((l.map fun a=>(town,a)).reverse ++ L)
 | [],L,_,_,_=>rfl
 | a :: l,L,h1,h2,h3=>by
  rw [List.all_cons,Bool.and_eq_true] at h1;rw [List.map_cons,List.nodup_cons] at h2;rw [zem,if_pos (by rw [h1.1,zdg (h3 a (List.mem_cons_self ..))]; rfl),zlf town l _ h1.2 h2.2]
  ·simp
  ·intro b hb hm
   rcases List.mem_cons.1 hm with e | hm
   ·exact h2.1 (e ▸ List.mem_map.2 ⟨b,hb,rfl⟩)
   ·exact h3 b (List.mem_cons_of_mem _ hb) hm
theorem zrc {towns : List zJ} {S : List (Int × Int)} {L : List zdb} {s : zz} (h : zfC towns s = true) (hS : zbR s.id S = none) (hL : ∀ y ∈ zeI s,y ∉ L) : zep towns S L s = some ((zeI s).reverse ++ L):=by
 unfold zfC at h;simp only [Bool.and_eq_true,decide_eq_true_eq] at h;obtain ⟨h1,h2,h3,h4,h5,h6,h7,h8,h9⟩:=h;have hnd:=List.nodup_cons.1 h9;unfold zep
 rw [if_pos (by
  simp only [Bool.and_eq_true,decide_eq_true_eq]
  exact ⟨by rw [hS]; rfl,h1,h2,h3,⟨h4,h5⟩,h6,h7,by rw [zdg (hL _ (List.mem_cons_self ..))]; rfl⟩)]
 rw [zlf s.town s.others _ h8 hnd.2]
 ·unfold zeI; simp
 ·intro a ha hm
  rcases List.mem_cons.1 hm with e | hm
  ·exact hnd.1 (e ▸ List.mem_map.2 ⟨a,ha,rfl⟩)
  ·exact hL _ (List.mem_cons_of_mem _ (List.mem_map.2 ⟨a,ha,rfl⟩)) hm
theorem zjH (towns : List zJ) : ∀ (l : List zz) (S : List (Int × Int)) (L : List zdb),(∀ s ∈ l,zfC towns s = true) -> l.Pairwise zhK -> (∀ s ∈ l,zbR s.id S = none /\ ∀ y ∈ zeI s,y ∉ L) ->
  zbP towns S L l = some ((l.map fun s=>(s.id,s.town)).reverse ++ S)
 | [],S,L,_,_,_=>rfl
 | s :: l,S,L,h1,h2,h3=>by
  rw [List.pairwise_cons] at h2;have hs:=h3 s (List.mem_cons_self ..);rw [zbP,zrc (h1 s (List.mem_cons_self ..)) hs.1 hs.2];simp only;rw [zjH towns l _ _ (fun t ht=>h1 t (List.mem_cons_of_mem _ ht)) h2.2]
  ·simp
  ·intro t ht
   have h4:=h3 t (List.mem_cons_of_mem _ ht);have h5:=h2.1 t ht;refine ⟨?_,fun y hy hm=>?_⟩
   ·rw [zbR,if_neg h5.1]; exact h4.1
   ·rcases List.mem_append.1 hm with hm | hm
    ·exact h5.2 y (List.mem_reverse.1 hm) hy
    ·exact h4.2 y hy hm
def zfW (towns : List zJ) (S : List (Int × Int)) (g : zj) : Bool:=
 (zS towns g.town).isSome && (zcE S g.street g.town && (decide (1 <= g.low) && (decide (g.high <= 999999) && (zhJ g.low g.high g.parity && (zcg g.code ((zS towns g.town).getD zJ.zero).codes && zcn g.route)))))
def zex (u g : zj) : Prop:=(u.town,u.street) = (g.town,g.street) -> zle g u = false
theorem ztr {towns : List zJ} {S : List (Int × Int)} {rs : List zj} {g : zj} (h : zfW towns S g = true) (ha : ∀ u ∈ rs,zex u g) : zdE towns S rs g = true:=by
 unfold zfW at h;unfold zdE;simp only [Bool.and_eq_true] at h ⊢;obtain ⟨h1,h2,h3,h4,h5,h6,h7⟩:=h;refine ⟨h1,h2,h3,h4,h5,?_,h6,h7⟩;rw [zui]
 ·rfl
 ·intro u hu
  unfold zdT at hu;have:=List.mem_filter.1 hu;exact ha u this.1 (by simpa using this.2)
theorem zll (towns : List zJ) (S : List (Int × Int)) : ∀ (l rs : List zj),(∀ g ∈ l,zfW towns S g = true) -> (rs ++ l).Pairwise zex -> zbK towns S rs l = true
 | [],_,_,_=>rfl
 | g :: l,rs,h1,h2=>by
  rw [zbK,if_pos (ztr (h1 g (List.mem_cons_self ..)) fun u hu=>(List.pairwise_append.1 h2).2.2 u hu g (List.mem_cons_self ..))];exact zll towns S l (rs ++ [g]) (fun t ht=>h1 t (List.mem_cons_of_mem _ ht)) (by simpa using h2)
def zil (towns : List zJ) (S : List (Int × Int)) (rs : List zj) (p : zh) : Bool:=
 (zS towns p.town).isSome && (zcn p.id && (zcE S p.street p.town && (zaZ p ((zS towns p.town).getD zJ.zero).country && ((zgg rs p).2 && zcn p.seq))))
def ziX (u p : zh) : Prop:=u.id ≠ p.id /\ zaC u ≠ zaC p /\ u.seq ≠ p.seq
theorem zlj (towns : List zJ) (S : List (Int × Int)) (rs : List zj) : ∀ (l : List zh) (P : List Int) (A : List zgp) (Q : List (Int × Int)),(∀ p ∈ l,zil towns S rs p = true) -> l.Pairwise ziX ->
  (∀ p ∈ l,p.id ∉ P /\ zaC p ∉ A /\ ∀ q ∈ Q,q.2 ≠ p.seq) -> zbC towns S rs P A Q l = true
 | [],_,_,_,_,_,_=>rfl
 | p :: l,P,A,Q,h1,h2,h3=>by
  rw [List.pairwise_cons] at h2;have hp:=h3 p (List.mem_cons_self ..);have ho:=h1 p (List.mem_cons_self ..)
  have hok : zeN towns S rs P A Q p = true:=by
   unfold zil at ho;unfold zeN;simp only [Bool.and_eq_true] at ho ⊢;obtain ⟨o1,o2,o3,o4,o5,o6⟩:=ho;refine ⟨o1,o2,by rw [zdg hp.1]; rfl,o3,o4,by rw [zdg hp.2.1]; rfl,o5,o6,?_⟩;rw [zdg]
   ·rfl
   ·intro hm
    exact hp.2.2 _ hm rfl
  rw [zbC,if_pos hok];refine zlj towns S rs l _ _ _ (fun t ht=>h1 t (List.mem_cons_of_mem _ ht)) h2.2 fun t ht=>?_;have h4:=h3 t (List.mem_cons_of_mem _ ht);have h5:=h2.1 t ht;refine ⟨?_,?_,?_⟩
  ·intro hm
   rcases List.mem_cons.1 hm with e | hm
   ·exact h5.1 e.symm
   ·exact h4.1 hm
  ·intro hm
   rcases List.mem_cons.1 hm with e | hm
   ·exact h5.2.1 e.symm
   ·exact h4.2.1 hm
  ·intro q hm
   rcases List.mem_cons.1 hm with rfl | hm
   ·exact h5.2.2
   ·exact h4.2.2 q hm
structure znU (f : zw) : Prop where
 few : f.towns.length <= 200 /\ f.streets.length <= 500 /\ f.ranges.length <= 1000 /\ f.points.length <= 2000
 t1 : ∀ t ∈ f.towns,zjf t = true
 t2 : f.towns.Pairwise zix
 s1 : ∀ s ∈ f.streets,zfC f.towns.reverse s = true
 s2 : f.streets.Pairwise zhK
 r1 : ∀ g ∈ f.ranges,zfW f.towns.reverse (f.streets.map fun s=>(s.id,s.town)).reverse g = true
 r2 : f.ranges.Pairwise zex
 p1 : ∀ p ∈ f.points,zil f.towns.reverse (f.streets.map fun s=>(s.id,s.town)).reverse f.ranges p = true
 p2 : f.points.Pairwise ziX
theorem zgb {f : zw} (h : znU f) : zbP f.towns.reverse [] [] f.streets = some (f.streets.map fun s=>(s.id,s.town)).reverse:=by
 rw [zjH f.towns.reverse f.streets [] [] h.s1 h.s2 fun s _=>⟨rfl,fun _ _=>by simp⟩,List.append_nil]
theorem zxF {f : zw} (h : znU f) : zae f = true:=by
 unfold zae zzr;rw [decide_eq_true h.few.1,decide_eq_true h.few.2.1,decide_eq_true h.few.2.2.1,decide_eq_true h.few.2.2.2,ztK h.t1 h.t2,zgb h];simp only [Bool.true_and,Bool.and_eq_true];exact ⟨zll _ _ _ _ h.r1 (by simpa using h.r2),zlj _ _ _ _ _ _ _ h.p1 h.p2 fun p _=>⟨by simp,by simp,fun _ h=>by cases h⟩⟩
end
section
open Go.RowKit
structure zi where
 towns : Nat
 streets : Nat
 cuts : List Nat
 points : List Nat
def zej (l : List Nat) (i : Nat) : Nat:=if l.length = 0 then 0 else l.getD (i % l.length) 0
def zhW (k : Nat) : ByteArray:=⟨#[UInt8.ofNat (48 + k % 10)]⟩
def zaE (i : Nat) : ByteArray:=⟨#[UInt8.ofNat (65 + i)]⟩
def zcb (c : Nat) (k : Nat) : ByteArray:=
 if c = 1 then ⟨#[49,50,51,52]⟩ ++ zhW k else if c = 2 then ⟨#[75,49,65,48,66]⟩ ++ zhW k else ⟨#[51,48,48]⟩ ++ zhW k
def zbg : List ByteArray:=[⟨#[65,76,66,65]⟩,⟨#[78,69,87,32,66,82,69,69,78]⟩,⟨#[67,79,82,86,73,78]⟩,⟨#[68,69,45,76,65,32,77,69,82]⟩,⟨#[83,65,73,78,84,32,69,86,69]⟩]
def zwa (j i : Nat) : ByteArray:=if i = 0 then zbg.getD j ⟨#[]⟩ else zbg.getD j ⟨#[]⟩ ++ (⟨#[32]⟩ ++ zaE i)
def zx (i : Nat) : Nat:=1 + i % 3
def zbt (i : Nat) : List ByteArray:=[zcb (zx i) i,zcb (zx i) (i + 1),zcb (zx i) (i + 2)]
def zjV (j i : Nat) : zJ:=⟨(10 + i : Nat),(zx i : Nat),zwa j i,if i = 0 then ⟨#[88,89]⟩ else ⟨#[]⟩,zbt i⟩
def zbF (x : zi) (i : Nat) : zJ:=zjV ((i + zej x.cuts i) % 5) i
def zK (x : zi) : Nat:=1 + x.towns % 5
def zau (x : zi) : Nat:=x.streets % 8
def zlv : ByteArray:=⟨#[83,79,85,84,72]⟩
def zhx : ByteArray:=⟨#[65,86,69,78,85,69]⟩
def zoG : ByteArray:=⟨#[76,79,78,71,32]⟩
def zoT : ByteArray:=⟨#[80,65,84,72,32]⟩
def zaW (x : zi) (i : Nat) : Bool:=decide (zx (i % zK x) = 1) && decide (zej x.cuts i % 2 = 1)
def zbp (x : zi) (i : Nat) : Bool:=decide (0 < zej x.cuts (i + 1) % 3)
def zeR (t : Nat) (pre suf : Bool) (i : Nat) : zz:=
 ⟨50 - (i : Int),(10 + t : Nat),if pre then zlv else ⟨#[]⟩,zoG ++ zaE i,if suf then zhx else ⟨#[]⟩,if suf then [zoT ++ zaE i] else []⟩
def zac (x : zi) (i : Nat) : zz:=zeR (i % zK x) (zaW x i) (zbp x i) i
def zeX (i : Nat) : zj:=⟨(10 + i : Nat),0,1,40,0,zcb (zx i) (i + 2),(300 + i : Nat)⟩
def zeO (t cut i : Nat) : List zj:=
 (if 0 < cut then [⟨(10 + t : Nat),50 - (i : Int),1,(cut : Nat),0,zcb (zx t) t,(100 + i : Nat)⟩] else []) ++
  [⟨(10 + t : Nat),50 - (i : Int),(cut + 1 : Nat),101,1,zcb (zx t) (t + 1),(101 + i : Nat)⟩,⟨(10 + t : Nat),50 - (i : Int),(cut + 1 : Nat),102,2,zcb (zx t) t,200⟩]
def zda (x : zi) (i : Nat) : List zj:=zeO (i % zK x) (zej x.cuts i % 100) i
def zen (i n : Nat) : Nat:=3000 + 7 * (n % 64) + 500 * i
def zcd (x : zi) (i n : Nat) : zh:=
 let k:=n / 3 % 9
 let t:=k % zK x
 if k < zau x then
  ⟨900 - (i : Int),(10 + t : Nat),50 - (k : Int),(1 + n / 16 % 100 : Nat),if zx t ≠ 1 /\ n % 5 = 0 then ⟨#[66]⟩ else ⟨#[]⟩,if zx t ≠ 3 /\ n % 7 = 0 then ⟨#[50]⟩ else ⟨#[]⟩,0,(zen i n : Nat)⟩
 else ⟨900 - (i : Int),(10 + n % zK x : Nat),0,0,⟨#[]⟩,⟨#[]⟩,(1 + n / 8 % 40 : Nat),(zen i n : Nat)⟩
def zgK (l : List zh) (p : zh) : List zh:=if l.any (fun q=>decide (zaC q = zaC p)) then l else l ++ [p]
def zba (x : zi) : Nat -> List zh
 | 0=>[]
 | i + 1=>zgK (zba x i) (zcd x i (x.points.getD i 0))
def zaN (x : zi) : Nat:=min x.points.length 60
def zb (x : zi) : zw:=
 ⟨(List.range (zK x)).map (zbF x),(List.range (zau x)).map (zac x),(List.range (zK x)).map zeX ++ (List.range (zau x)).flatMap (zda x),zba x (zaN x)⟩
end
section
open Go.RowKit Go.Maps
def zkt (w : World) (k : IntKind) (v : Value) (l : List Nat) : Prop:=Sl w v l.length fun b off i=>w.cell? ⟨b,off + i,none⟩ = some (.int k ((l.getD i 0 : Nat) : Int))
theorem zkt.stays {w w' : World} {k : IntKind} {v : Value} {l : List Nat} (h : zkt w k v l) (hs : zo w w') : zkt w' k v l:=Sl.stays h hs fun _ _ _ hb _ hc=>(hs.2 _ hb).trans hc
structure zbS (w : World) (vc vp : Value) (x : zi) : Prop where
 c : zkt w .u8 vc x.cuts
 p : zkt w .u16 vp x.points
 cl : ∀ n ∈ x.cuts,n < 256
 pl : ∀ n ∈ x.points,n < 65536
 t : x.towns < 256
 s : x.streets < 256
theorem zbS.stays {w w' : World} {vc vp : Value} {x : zi} (h : zbS w vc vp x) (hs : zo w w') : zbS w' vc vp x:=⟨h.c.stays hs,h.p.stays hs,h.cl,h.pl,h.t,h.s⟩
theorem zrE {l : List Nat} (hl : ∀ n ∈ l,n < 256) (i : Nat) : zej l i < 256:=by
 unfold zej
 split
 ·omega
 ·rename_i h0
  have hlt : i % l.length < l.length:=Nat.mod_lt _ (by omega);rw [zD _ _ _ hlt];exact hl _ (List.getElem_mem hlt)
theorem zwE (l : List Nat) (v : Value) (i : Nat) (w : World) (hv : zkt w .u8 v l) (hl : ∀ n ∈ l,n < 256) (hi : i <= 1000) :
  Calls Tryz.prog 39 #[v,.int .i64 (i : Int)] w fun e w'=>e = .returned (.int .i64 (zej l i : Int)) /\ Below w.heap.size w w':=by
 obtain ⟨A,c,rfl,h1,h2,h3⟩:=hv;have h3':=Hd h3;have hd : Hid (zej l i = if l.length = 0 then 0 else l.getD (i % l.length) 0):=Hd rfl;have hlt2:=Hd (zrE hl i);unfold maxLen at h2;clear h3;generalize zej l i = res at *;by_cases h0 : l.length = 0
 ·have e0 : ((l.length : Int) == 0) = true:=by simp [h0]
  go_enter Tryz.func39,Tryz.ntmps39;go_wp2;go_ret;exact ⟨zbO (by rw [hd.out,if_pos h0]; rfl),Below.refl _ _⟩
 ·have e0 : ((l.length : Int) == 0) = false:=by simpa using h0
  obtain ⟨b,off,rfl,hb,hc⟩:=h3'.out (by omega);have hlt : i % l.length < l.length:=Nat.mod_lt _ (by omega);have a0:=hc _ hlt;have hr : Hid (res = l.getD (i % l.length) 0):=Hd (by rw [hd.out,if_neg h0]);simp only at a0;rw [<- hr.out] at a0;have n0 : (0 : Int) <= ((i % l.length : Nat) : Int):=by omega
  have n1 : ((i % l.length : Nat) : Int) < (l.length : Int):=by omega
  have hres:=hlt2.out;clear hc hl hd h3' hr;go_enter Tryz.func39,Tryz.ntmps39;go_wp2;go_ret;exact ⟨rfl,Below.refl _ _⟩
theorem zyn (c k : Nat) (w : World) (hc : c < 256) (hk : k <= 1000) :
  Calls Tryz.prog 40 #[.int .u8 (c : Int),.int .i64 (k : Int)] w fun e w'=>e = .returned (.string (zcb c k)) /\ Below w.heap.size w w':=by
 have hd : Hid (zcb c k = if c = 1 then ⟨#[49,50,51,52]⟩ ++ zhW k else if c = 2 then ⟨#[75,49,65,48,66]⟩ ++ zhW k else ⟨#[51,48,48]⟩ ++ zhW k):=Hd rfl;generalize zcb c k = res at *;have hb : Hid (Below w.heap.size w (w.alloc (.cells #[.int .u8 (48 + (k : Int) % 10)] 5))):=Hd ((Below.refl _ _).alloc (lQ _) _)
 have hcv:=run_convert_bytes_back (P:=Tryz.prog) (w.alloc (.cells #[.int .u8 (48 + (k : Int) % 10)] 5)) 22 9 5 ⟨w.heap.size,0,none⟩ 1 [UInt8.ofNat (48 + k % 10)] Tryz.underlying22 Tryz.underlying5 Tryz.underlying9 (fun j hj=>by
  obtain rfl : j = 0:=by simpa using hj
  rw [show (Addr.add ⟨w.heap.size,0,none⟩ 0) = ⟨w.heap.size,0,none⟩ from rfl,(Blk.new w 5 #[.int .u8 (48 + (k : Int) % 10)]).cell 0]
  have : (UInt8.ofNat (48 + k % 10)).toNat = 48 + k % 10:=by
   rw [UInt8.toNat_ofNat']; omega
  simp; omega)
 have hdg : (⟨[UInt8.ofNat (48 + k % 10)].toArray⟩ : ByteArray) = zhW k:=rfl;rw [hdg] at hcv;simp only [List.length_cons,List.length_nil,Nat.zero_add] at hcv;have hds : (zhW k).size = 1:=rfl;generalize zhW k = dg at *;clear hdg;by_cases h1 : c = 1
 ·have e1 : ((c : Int) == 1) = true:=by simp [h1]
  rw [if_pos h1] at hd;clear h1;go_enter Tryz.func40,Tryz.ntmps40;go_wp2;go_ret;exact ⟨by rw [hd.out]; rfl,hb.out⟩
 ·have e1 : ((c : Int) == 1) = false:=by simp; omega
  rw [if_neg h1] at hd;by_cases h2 : c = 2
  ·have e2 : ((c : Int) == 2) = true:=by simp [h2]
   rw [if_pos h2] at hd;clear h1 h2;go_enter Tryz.func40,Tryz.ntmps40;go_wp2;go_ret;exact ⟨by rw [hd.out]; rfl,hb.out⟩
  ·have e2 : ((c : Int) == 2) = false:=by simp; omega
   rw [if_neg h2] at hd;clear h1 h2;go_enter Tryz.func40,Tryz.ntmps40;go_wp2;go_ret;exact ⟨by rw [hd.out]; rfl,hb.out⟩
end
end Go.Proofs.YtggimnndflkjkaaGreatDoor
