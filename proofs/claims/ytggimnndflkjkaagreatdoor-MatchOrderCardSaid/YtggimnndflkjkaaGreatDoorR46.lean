import Derived.Test.YtggimnndflkjkaaGreatDoorR01
import Derived.Test.YtggimnndflkjkaaGreatDoorR40
import Derived.Test.YtggimnndflkjkaaGreatDoorR41
set_option linter.all false
set_option maxRecDepth 100000
set_option maxHeartbeats 0
namespace Go.Proofs.YtggimnndflkjkaaGreatDoor
section
open Go.RowKit Go.Maps
theorem map_some {A : Type} {B : Type} {f : A -> B} {o : Option A} {b : B} (h : o.map f = some b) : ∃ a,o = some a /\ f a = b:=by
 cases o with
 | none=>cases h
 | some a=>exact ⟨a,rfl,Option.some.inj h⟩
end
section
open Go.RowKit Go.Maps
def zbH (m : Nat) (v : Nat -> ByteArray) (k : Nat) : ByteArray:=if m.testBit k then ⟨#[]⟩ else v k
def zbZ (m : Nat) (v : Nat -> ByteArray) (k : Nat) : Bool:=m.testBit k && decide ((v k).size ≠ 0)
theorem zve (m : Nat) (v : Nat -> ByteArray) : ∀ k,zbV m (zG v k) = zG (zbH m v) k
 | 0=>rfl
 | k + 1=>by
  have ih:=zve m v k;unfold zbV at ih ⊢;rw [zG,zG,List.filter_append,ih];congr 1;unfold zbH;by_cases hb : m.testBit (k + 1) = true
  ·rw [if_pos hb,if_pos (show (⟨#[]⟩ : ByteArray).size = 0 from rfl)]
   split
   ·rfl
   ·simp [hb]
  ·rw [if_neg hb]
   split
   ·rfl
   ·simp [hb]
theorem zsZ (m : Nat) (v : Nat -> ByteArray) : zbV m (zm v) = zm (zbH m v):=zve m v 10
theorem zkM (m : Nat) (v : Nat -> ByteArray) (k : Nat) : decide ((zbH m v k).size ≠ 0) = (!m.testBit k && decide ((v k).size ≠ 0)):=by
 unfold zbH;cases m.testBit k
 ·simp
 ·simp only [if_true,Bool.not_true,Bool.false_and]
  rfl
theorem zwQ {t m : Nat} {v : Nat -> ByteArray} (h : zsj t v) (h89 : m.testBit 8 = true -> m.testBit 9 = true) :
  ((zbZ m v 1 || zbZ m v 2 || zbZ m v 4 || zbZ m v 7) = false -> (m.testBit 8 && m.testBit 10) = false -> zR (zx t : Nat) (zm (zbH m v)) = true) /\ ((m.testBit 8 && m.testBit 10) = true -> zR (zx t : Nat) (zm (zbH m v)) = false):=by
 have e : ∀ k : Nat,zgz (zbH m v) (k : Int) = (!m.testBit k && decide ((v k).size ≠ 0)):=fun k=>zkM m v k;have e1:=e 1;have e2:=e 2;have e3:=e 3;have e4:=e 4;have e5:=e 5;have e6:=e 6;have e7:=e 7;have e8:=e 8;have e9:=e 9;have e10:=e 10
 have hfit : zmu (zx t : Nat) (zgz (zbH m v)) = (if !m.testBit 7 && decide ((v 7).size ≠ 0) then (if (!m.testBit 1 && decide ((v 1).size ≠ 0)) || (!m.testBit 2 && decide ((v 2).size ≠ 0)) || (!m.testBit 3 && decide ((v 3).size ≠ 0)) || (!m.testBit 4 && decide ((v 4).size ≠ 0)) || (!m.testBit 5 && decide ((v 5).size ≠ 0)) then false else zdY (zx t : Nat) (zgz (zbH m v))) else (if !(!m.testBit 1 && decide ((v 1).size ≠ 0)) || !(!m.testBit 4 && decide ((v 4).size ≠ 0)) then false else zdY (zx t : Nat) (zgz (zbH m v)))):=by
  unfold zmu;rw [show zgz (zbH m v) 7 = _ from e7,show zgz (zbH m v) 1 = _ from e1,show zgz (zbH m v) 2 = _ from e2,show zgz (zbH m v) 3 = _ from e3,show zgz (zbH m v) 4 = _ from e4,show zgz (zbH m v) 5 = _ from e5]
 have hrest : zdY (zx t : Nat) (zgz (zbH m v)) = !(m.testBit 8 && m.testBit 10):=by
  unfold zdY;rw [show zgz (zbH m v) 8 = _ from e8,show zgz (zbH m v) 10 = _ from e10,show zgz (zbH m v) 9 = _ from e9,show zgz (zbH m v) 2 = _ from e2,show zgz (zbH m v) 3 = _ from e3,show zgz (zbH m v) 6 = _ from e6];have hc:=zkp t;have hc1:=h.c1;have hc2:=h.c2;have hc3:=h.c3;have ht:=h.town;have hcd:=h.code;have hcc : zx t = 1 \/ zx t = 2 \/ zx t = 3:=by omega
  rcases hcc with hcc | hcc | hcc
  ·have:=hc1 hcc
   cases h8 : m.testBit 8
   ·simp_all
   ·have:=h89 h8
    cases h10 : m.testBit 10 <;> simp_all
  ·have:=hc2 hcc
   cases h8 : m.testBit 8
   ·simp_all
   ·have:=h89 h8
    cases h10 : m.testBit 10 <;> simp_all
  ·have:=hc3 hcc
   cases h8 : m.testBit 8
   ·simp_all
   ·have:=h89 h8
    cases h10 : m.testBit 10 <;> simp_all
 rw [hrest] at hfit;constructor
 ·intro hg h810
  refine (zeP _ _).2 ⟨fun k h1 h2 hz=>?_,?_⟩
  ·unfold zbH at hz ⊢
   split at hz
   ·exact absurd rfl hz
   ·rename_i hb
    rw [if_neg hb];exact zvV (h.tf k h1 h2) hz
  ·rw [hfit,h810]
   unfold zbZ at hg;rcases h.fit with ⟨f7,f1,f2,f3,f4,f5⟩ | ⟨f7,f1,f4⟩
   ·have hb7 : m.testBit 7 = false:=by
     cases hb : m.testBit 7
     ·rfl
     ·rw [hb] at hg; simp [f7] at hg
    simp [f7,f1,f2,f3,f4,f5,hb7]
   ·have hb1 : m.testBit 1 = false:=by
     cases hb : m.testBit 1
     ·rfl
     ·rw [hb] at hg; simp [f1] at hg
    have hb4 : m.testBit 4 = false:=by
     cases hb : m.testBit 4
     ·rfl
     ·rw [hb] at hg; simp [f4] at hg
    simp [f7,f1,f4,hb1,hb4]
 ·intro h810
  cases hr : zR (zx t : Nat) (zm (zbH m v)) with
  | false=>rfl
  | true=>
   have h2:=((zeP _ _).1 hr).2;rw [hfit,h810] at h2
   split at h2 <;> split at h2 <;> cases h2
end
section
open Go.RowKit Go.Maps
def StN (n : zP) : Prop:=(n.state = 1 \/ n.state = 4) ↔ n.cost = 0
theorem zCc {fd : List ByteArray} {r : zhO} (hr : zeY r /\ zkw r) {n : zP} (h : zgn fd r = some (some n)) : StN n:=by
 unfold zgn at h;unfold StN
 split at h
 ·split at h
  ·cases h
  ·split at h
   ·cases h
   ·rename_i h1
    cases h
    have:=hr.2.1.resolve_left h1;simp only;omega
 ·split at h
  ·cases h
   simp
  ·rename_i h1
   split at h
   ·rename_i h2
    cases h
    have h3 : (r.edits (zab fd r.kind) r.file).1 ≠ 0:=fun e=>h1 (hr.2.2 _ _ h2 e);simp only;omega
   ·cases h
theorem zBy (fd : List ByteArray) : ∀ (l : List zhO),(∀ r ∈ l,zeY r /\ zkw r) -> ∀ ns,zI fd l = some ns -> ∀ n ∈ ns,StN n
 | [],_,ns,h,n,hn=>by
  simp only [zI,Option.some.injEq] at h;subst h;cases hn
 | r :: t,hl,ns,h,n,hn=>by
  rw [zI] at h
  cases hs : zgn fd r with
  | none=>rw [hs] at h; cases h
  | some o=>
   rw [hs] at h
   cases o with
   | none=>exact zBy fd t (fun q hq=>hl q (List.mem_cons_of_mem _ hq)) ns h n hn
   | some m=>
    simp only at h
    cases h2 : zI fd t with
    | none=>rw [h2] at h; cases h
    | some ms=>
     rw [h2] at h;simp only [Option.map_some,Option.some.injEq] at h;subst h;rcases List.mem_cons.1 hn with rfl | hn
     ·exact zCc (hl r (List.mem_cons_self ..)) hs
     ·exact zBy fd t (fun q hq=>hl q (List.mem_cons_of_mem _ hq)) ms h2 n hn
theorem zBZ {f : zw} {cty : Int} {fd : List ByteArray} {id : Int} {ns : List zP} (h : zax f cty fd id = some ns) : ∀ n ∈ ns,StN n:=by
 unfold zax at h
 split at h
 ·exact zBy fd _ (znO _) ns h
 ·cases h
theorem zBQ {f : zw} {fd : List ByteArray} {tx : ByteArray} {id : Int} {ns : List zP} (h : zZ f fd tx id = some ns) : ∀ n ∈ ns,StN n:=by
 have hal : ∀ n ∈ [(⟨4,4,0⟩ : zP)],StN n:=fun n hn=>by
  rw [mS] at hn;subst hn;unfold StN;simp
 unfold zZ at h
 split at h
 ·split at h
  ·cases h; exact hal
  ·cases h
 ·rename_i ms h2
  split at h
  ·cases h; exact hal
  ·cases h
   exact zBy fd _ (zlC _) _ h2
theorem zBP {f : zw} {fd : List ByteArray} {tx : ByteArray} {id : Int} {ns : List zP} (h : zap f fd tx id = some ns) : ∀ n ∈ ns,StN n:=by
 unfold zap at h
 split at h
 ·cases h; intro n hn; cases hn
 ·exact zBQ h
theorem zBY {f : zw} {fd : List ByteArray} {tx : ByteArray} {id : Int} {ns : List zP} (h : zap f fd tx id = some ns) : ns.length <= 3:=by
 unfold zap at h
 split at h
 ·cases h; simp
 ·exact (zdL h).2
structure zCw (m : zeC) : Prop where
 sum : zO m.notes = m.cost
 cheap : zkq m.notes
 few : m.notes.length <= 10
 up : m.notes.Pairwise fun a b=>a.kind < b.kind
 states : ∀ n ∈ m.notes,StN n
theorem zCg {f : zw} {c : Int} {ps : List zu} {q : zh} {ns : List zP} (h : zaU f c ps q = some ns) : zCw ⟨q.id,zO ns,ns⟩:=by
 obtain ⟨a,b,d,h1,h2,h3,e⟩:=zqz h;have hp : ns.Perm (a ++ b ++ d):=by rw [e]; exact zja _
 have hap : zru (a ++ b ++ d):=zry (zjI h1) (zhp h2) (zim h3);have hd:=zcf (zv ps) _ (zgG f q) d h3
 have hm : ∀ n ∈ ns,n ∈ a \/ n ∈ b \/ n ∈ d:=fun n hn=>by
  have:=hp.mem_iff.1 hn;simp only [List.mem_append] at this;rcases this with (h | h) | h
  ·exact .inl h
  ·exact .inr (.inl h)
  ·exact .inr (.inr h)
 refine ⟨rfl,fun n hn=>?_,?_,?_,fun n hn=>?_⟩
 ·rcases hm n hn with h | h | h
  ·exact (zdV h1).1 n h
  ·exact zmf h2 n h
  ·exact hd.1 n h
 ·have h4:=hp.length_eq
  have h5:=(zdV h1).2;have h6:=zBY h2;have h7:=hd.2;have h8 : (zQ f q).length = 5:=rfl;simp only [List.length_append] at h4;show ns.length <= 10;omega
 ·have hs : ns.Pairwise fun a b=>a.kind <= b.kind:=by rw [e]; exact zBX _
  have hne : ns.Pairwise fun a b=>a.kind ≠ b.kind:=(hp.pairwise_iff (fun h=>Ne.symm h)).2 hap;exact (hs.and hne).imp fun h=>by omega
 ·rcases hm n hn with h | h | h
  ·exact zBZ h1 n h
  ·exact zBP h2 n h
  ·exact zBy (zv ps) _ (zmb f q) d h3 n h
theorem zBT {f : zw} {c : Int} {ps : List zu} {m : zeC} : m ∈ ziF f c ps ↔ ∃ q ∈ f.points,∃ ns,zaU f c ps q = some ns /\ m = ⟨q.id,zO ns,ns⟩:=by
 unfold ziF zcq;rw [(zfB leM _).mem_iff,List.mem_filterMap];constructor
 ·rintro ⟨q,hq,h⟩
  unfold zhg at h;obtain ⟨ns,h1,h2⟩:=Option.map_eq_some_iff.1 h;exact ⟨q,hq,ns,h1,h2.symm⟩
 ·rintro ⟨q,hq,ns,h1,rfl⟩
  exact ⟨q,hq,by unfold zhg; rw [h1]; rfl⟩
theorem zBV {f : zw} (hid : f.points.Pairwise fun a b=>a.id ≠ b.id) (c : Int) (ps : List zu) : (ziF f c ps).Pairwise fun a b=>a.point ≠ b.point:=
 ((zfB leM _).pairwise_iff (fun h=>Ne.symm h)).2 (zgy f c ps f.points hid)
theorem zCz {f : zw} (hid : f.points.Pairwise fun a b=>a.id ≠ b.id) (c : Int) (ps : List zu) : (ziF f c ps).Pairwise fun a b=>a.cost < b.cost \/ (a.cost = b.cost /\ a.point < b.point):=by
 have h1 : (ziF f c ps).Pairwise fun a b=>leM a b = true:=zfg leM zvc zxN _;refine (h1.and (zBV hid c ps)).imp ?_;rintro a b ⟨h,h2⟩;unfold leM at h;simp only [Bool.or_eq_true,Bool.and_eq_true,decide_eq_true_eq] at h;omega
theorem zCu {f : zw} (hid : f.points.Pairwise fun a b=>a.id ≠ b.id) (c : Int) (ps : List zu) {q : zh} (hq : q ∈ f.points) : (∃ m ∈ ziF f c ps,m.point = q.id) ↔ (zaU f c ps q).isSome = true:=by
 constructor
 ·rintro ⟨m,hm,e⟩
  obtain ⟨r,hr,ns,h1,rfl⟩:=zBT.1 hm;have : r = q:=zfR hid hr hq (fun h=>h e) (fun h=>h e.symm);rw [<- this,h1];rfl
 ·intro h
  obtain ⟨ns,h1⟩:=Option.isSome_iff_exists.1 h;exact ⟨_,zBT.2 ⟨q,hq,ns,h1,rfl⟩,rfl⟩
theorem zBA (fd : List ByteArray) : ∀ (l : List zhO) (ns : List zP),zI fd l = some ns -> ∀ r ∈ l,∃ o,zgn fd r = some o /\ ∀ n,o = some n -> n ∈ ns
 | [],_,_,_,hr=>by cases hr
 | a :: t,ns,h,r,hr=>by
  rw [zI] at h
  cases hs : zgn fd a with
  | none=>rw [hs] at h; cases h
  | some o=>
   rw [hs] at h
   cases o with
   | none=>
    simp only at h;rcases List.mem_cons.1 hr with rfl | hr
    ·exact ⟨none,hs,fun n e=>by cases e⟩
    ·exact zBA fd t ns h r hr
   | some m=>
    simp only at h
    cases h2 : zI fd t with
    | none=>rw [h2] at h; cases h
    | some ms=>
     rw [h2] at h;simp only [Option.map_some,Option.some.injEq] at h;subst h;rcases List.mem_cons.1 hr with rfl | hr
     ·exact ⟨some m,hs,fun n e=>by cases e; exact List.mem_cons_self ..⟩
     ·obtain ⟨o,h3,h4⟩:=zBA fd t ms h2 r hr
      exact ⟨o,h3,fun n e=>List.mem_cons_of_mem _ (h4 n e)⟩
theorem zBM : ∀ {ns : List zP},zkq ns -> ∀ {n},n ∈ ns -> n.cost <= zO ns
 | [],_,_,h=>by cases h
 | m :: t,hc,n,h=>by
  have ht : zkq t:=fun a ha=>hc a (List.mem_cons_of_mem _ ha);have h1:=(zbD t ht).1;have h2:=hc m (List.mem_cons_self ..);have e : zO (m :: t) = m.cost + zO t:=by simp [zO]
  rw [e];rcases List.mem_cons.1 h with rfl | h
  ·omega
  ·have:=zBM ht h
   omega
theorem zBC {a b : ByteArray} (h : (zaq a b).2 = true) : (zaq a b).1 = 4:=by
 unfold zaq at h ⊢
 split
 ·rfl
 ·rename_i h1
  rw [if_neg h1] at h;cases h
theorem zBI (read : ByteArray) : ∀ {l : List ByteArray} {s : ByteArray},s ∈ l -> (zaq read s).2 = true -> zcy read l = (4,true)
 | [],_,h,_=>by cases h
 | x :: t,s,h,he=>by
  rw [zcy]
  split
  ·rename_i h1
   rw [zBC h1]
  ·rename_i h1
   rcases List.mem_cons.1 h with rfl | h
   ·exact absurd he h1
   ·exact zBI read h he
theorem zBS (x : zi) (t : Nat) (q : zh) (hb : BasePt x t q) {fd : List ByteArray} {d : List zP} (h : zbu (zb x) fd q = some d) :
  (zbL (zab fd 10) (zbF x t).codes).2 = true /\ (zbL (zab fd 10) (zbF x t).codes).1 <= zO d:=by
 have hs:=zcU x t q hb;have hh:=(zuM x t q hb).2;have hcd:=(zyo x t hs.1 _ hh).2;have hc:=zcf fd _ (zgG (zb x) q) d h;have h0:=(zbD d hc.1).1;obtain ⟨o,h1,h2⟩:=zBA fd _ d h ⟨10,95,3,96,(zsI (zb x) q).code,zaq⟩ (by simp [zQ,zsI]);unfold zgn at h1;simp only at h1;unfold zbL;show ((if (zab fd 10).size = 0 then ((3 : Int),true) else if zcg (zab fd 10) (zbt t) then (0,true) else zcy (zab fd 10) (zbt t)) : Int × Bool).2 = true /\ ((if (zab fd 10).size = 0 then ((3 : Int),true) else if zcg (zab fd 10) (zbt t) then (0,true) else zcy (zab fd 10) (zbt t)) : Int × Bool).1 <= _;by_cases hz : (zab fd 10).size = 0
 ·rw [if_pos hz] at h1 ⊢
  rw [if_neg hcd] at h1;rw [if_neg (by omega)] at h1;have h3:=zBM hc.1 (h2 _ (Option.some.inj h1).symm);exact ⟨rfl,h3⟩
 ·rw [if_neg hz] at h1 ⊢
  by_cases hm : zcg (zab fd 10) (zbt t) = true
  ·rw [if_pos hm]
   exact ⟨rfl,h0⟩
  ·rw [if_neg hm]
   by_cases he : zab fd 10 = (zsI (zb x) q).code
   ·exact absurd (zih.2 (he ▸ hh)) hm
   ·rw [if_neg he] at h1
    split at h1
    ·rename_i h4
     have h3:=zBM hc.1 (h2 _ (Option.some.inj h1).symm);simp only [zBC h4] at h3;rw [zBI _ hh h4];exact ⟨rfl,h3⟩
    ·cases h1
theorem zBH (x : zi) (t : Nat) (c : Int) (ps : List zu) (_ht : t < zK x) {a : List zP} (h1 : zax (zb x) c (zv ps) ((10 + t : Nat) : Int) = some a) (h2 : (zbL (zab (zv ps) 10) (zbF x t).codes).2 = true) :
  zjA (zjN (zb x) c ps) (zbF x t) = some ⟨((10 + t : Nat) : Int),0,zO a + (zbL (zab (zv ps) 10) (zbF x t).codes).1⟩:=by
 unfold zjA;rw [zsh];show (match zax (zb x) c (zv ps) ((10 + t : Nat) : Int) with | none=>none | some ns=>_) = _;rw [h1];show (if (zbL (zab (zv ps) 10) (zbF x t).codes).2 then _ else _) = _;rw [if_pos h2];rfl
theorem zCf (x : zi) (c : Int) (ps : List zu) {q : zh} (hq : q ∈ (zb x).points) {ns : List zP} (h : zaU (zb x) c ps q = some ns) :
  ∃ p ∈ zfE (zb x) c ps,p.town = q.town /\ p.cost <= zO ns /\ p.street = 0:=by
 obtain ⟨t,-,-,-,hb⟩:=zcx x q hq;have hs:=zcU x t q hb;obtain ⟨a,b,d,h1,h2,h3,e⟩:=zqz h;have h4:=zqA h1 h2 h3 e;have h5:=zBS x t q hb h3;rw [hs.2.1] at h1;refine ⟨_,List.mem_filterMap.2 ⟨_,zeJ.2 ⟨t,hs.1,rfl⟩,zBH x t c ps hs.1 h1 h5.1⟩,?_,?_,rfl⟩
 ·exact hs.2.1.symm
 ·simp only
  omega
theorem zBK {α β : Type} [DecidableEq α] {a : α} {b : β} : ∀ {l : List (α × β)},(a,b) ∈ l -> (∀ p ∈ l,p.1 = a -> p.2 = b) -> zbR a l = some b
 | [],h,_=>by cases h
 | p :: t,h,hu=>by
  rw [zbR]
  split
  ·rename_i e
   rw [hu p (List.mem_cons_self ..) e]
  ·rename_i e
   rcases List.mem_cons.1 h with rfl | h
   ·exact absurd rfl e
   ·exact zBK h fun q hq=>hu q (List.mem_cons_of_mem _ hq)
theorem zCh (x : zi) (c : Int) (ps : List zu) {q : zh} (hq : q ∈ (zb x).points) {ns : List zP} (h : zaU (zb x) c ps q = some ns) :
  q.street = 0 \/ ∃ p ∈ zfi (zb x) c ps,p.street = q.street /\ p.town = q.town /\ p.cost <= zO ns:=by
 obtain ⟨t,-,-,-,hb⟩:=zcx x q hq;have hs:=zcU x t q hb;obtain ⟨a,b,d,h1,h2,h3,e⟩:=zqz h;have h4:=zqA h1 h2 h3 e;have h5:=zBS x t q hb h3;rw [hs.2.1] at h1
 have hbox : q.street = 0 \/ ∃ k,k < zau x /\ t = k % zK x /\ q.street = 50 - (k : Int) /\ q.box = 0:=by
  cases hb with
  | street i k num seq letter unit hk hn hl hu hs=>exact .inr ⟨k,hk,rfl,rfl,rfl⟩
  | box i t bx seq ht hb hs=>exact .inl rfl
 rcases hbox with h0 | ⟨k,hk,hkt,hks,hk0⟩
 ·exact .inl h0
 have h7:=zah x;have hne : q.street ≠ 0:=by omega
 refine .inr ?_
 have hr7 : (zab (zv ps) 7).size = 0:=by
  obtain ⟨o,g1,-⟩:=zBA (zv ps) _ d h3 ⟨7,94,-1,91,zao q.box,noP⟩ (by simp [zQ]);unfold zgn at g1;simp only at g1;by_cases hz : (zab (zv ps) 7).size = 0
  ·exact hz
  ·exfalso
   rw [if_neg hz] at g1;have hd0 : zao q.box = ⟨#[]⟩:=by rw [hk0]; rfl
   rw [hd0,if_neg (fun e=>hz (by rw [e]; rfl))] at g1;simp [noP] at g1
 have hst : zZ (zb x) (zv ps) (zad (zab (zv ps) 3) (zab (zv ps) 4) (zab (zv ps) 5)) q.street = some b:=by
  unfold zap at h2;rw [if_neg hne] at h2;exact h2
 have hget : zbR ((10 + t : Nat) : Int) (zfv (zfE (zb x) c ps)) = some (zO a + (zbL (zab (zv ps) 10) (zbF x t).codes).1):=by
  refine zBK ?_ ?_
  ·unfold zfv
   rw [List.mem_reverse];exact List.mem_map.2 ⟨_,List.mem_filterMap.2 ⟨_,zeJ.2 ⟨t,hs.1,rfl⟩,zBH x t c ps hs.1 h1 h5.1⟩,rfl⟩
  ·intro p hp ek
   unfold zfv at hp;rw [List.mem_reverse] at hp;obtain ⟨pl,hpl,rfl⟩:=List.mem_map.1 hp;obtain ⟨u,hu,hpu⟩:=List.mem_filterMap.1 hpl;obtain ⟨i,hi,rfl⟩:=zeJ.1 hu
   have hid : pl.town = ((10 + i : Nat) : Int):=by
    unfold zjA at hpu
    split at hpu
    ·cases hpu
    ·split at hpu
     ·cases hpu
      exact zsh x i
     ·cases hpu
   simp only at ek;rw [hid] at ek;obtain rfl : i = t:=by omega
   rw [zBH x i c ps hi h1 h5.1] at hpu;cases hpu
   rfl
 have hid:=zfD x k;have htn : (zac x k).town = ((10 + t : Nat) : Int):=by rw [hkt]; rfl
 refine ⟨⟨((10 + t : Nat) : Int),50 - (k : Int),(zO a + (zbL (zab (zv ps) 10) (zbF x t).codes).1) + zO b⟩,?_,?_,?_,?_⟩
 ·unfold zfi
  rw [if_pos hr7];refine List.mem_filterMap.2 ⟨_,zcr.2 ⟨k,hk,rfl⟩,?_⟩;unfold zfh;rw [htn,hget,hid,<- hks];show (match zZ (zb x) (zv ps) (zad (zab (zv ps) 3) (zab (zv ps) 4) (zab (zv ps) 5)) q.street with | none=>none | some ns=>_) = _;rw [hst]
 ·exact hks.symm
 ·exact hs.2.1.symm
 ·simp only
  omega
end
end Go.Proofs.YtggimnndflkjkaaGreatDoor
