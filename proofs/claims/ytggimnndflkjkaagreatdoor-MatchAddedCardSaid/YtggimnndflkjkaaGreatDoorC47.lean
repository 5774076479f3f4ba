import Derived.Test.YtggimnndflkjkaaGreatDoorC01
import Derived.Test.YtggimnndflkjkaaGreatDoorC42
set_option linter.all false
set_option maxRecDepth 100000
set_option maxHeartbeats 0
namespace Go.Proofs.YtggimnndflkjkaaGreatDoor
section
open Go.RowKit Go.Maps
def zpk (v' v : Nat -> ByteArray) (r : zhO) : Option Int:=
 if (v' r.kind).size = 0 then (if (v r.kind).size = 0 then some 0 else if r.missing = -1 then none else some r.missing)
 else if v' r.kind = v r.kind then some 0 else if (r.edits (v' r.kind) (v r.kind)).2 then some (r.edits (v' r.kind) (v r.kind)).1 else none
def zww (a b : Option Int) : Option Int:=match a,b with
 | some a,some b=>some (a + b)
 | _,_=>none
def zmP (v' v : Nat -> ByteArray) : List zhO -> Option Int
 | []=>some 0
 | r :: t=>zww (zpk v' v r) (zmP v' v t)
theorem zrh (n : zP) (ns : List zP) : zO (n :: ns) = n.cost + zO ns:=rfl
theorem zrD (fd : List ByteArray) (v' v : Nat -> ByteArray) : ∀ l : List zhO,(∀ r ∈ l,zab fd r.kind = v' r.kind /\ r.file = v r.kind) -> (zI fd l).map zO = zmP v' v l
 | [],_=>rfl
 | r :: t,h=>by
  have ih:=zrD fd v' v t fun x hx=>h x (List.mem_cons_of_mem _ hx);obtain ⟨h1,h2⟩:=h r (List.mem_cons_self ..);rw [zI,zmP,<- ih];have hs : zgn fd r = if (v' r.kind).size = 0 then (if (v r.kind).size = 0 then some none else if r.missing = -1 then none else some (some ⟨r.kind,3,r.missing⟩))
   else if v' r.kind = v r.kind then some (some ⟨r.kind,1,0⟩) else if (r.edits (v' r.kind) (v r.kind)).2 then some (some ⟨r.kind,2,(r.edits (v' r.kind) (v r.kind)).1⟩) else none:=by
   unfold zgn;rw [h1,h2]
  rw [hs];unfold zpk;generalize zI fd t = o;by_cases a1 : (v' r.kind).size = 0
  ·rw [if_pos a1,if_pos a1]
   by_cases a2 : (v r.kind).size = 0
   ·rw [if_pos a2,if_pos a2]
    cases o <;> simp [zww]
   ·rw [if_neg a2,if_neg a2]
    by_cases a3 : r.missing = -1
    ·rw [if_pos a3,if_pos a3]
     cases o <;> rfl
    ·rw [if_neg a3,if_neg a3]
     cases o <;> rfl
  ·rw [if_neg a1,if_neg a1]
   by_cases a2 : v' r.kind = v r.kind
   ·rw [if_pos a2,if_pos a2]
    cases o <;> simp [zww,zrh]
   ·rw [if_neg a2,if_neg a2]
    by_cases a3 : (r.edits (v' r.kind) (v r.kind)).2 = true
    ·rw [if_pos a3,if_pos a3]
     cases o <;> rfl
    ·rw [if_neg a3,if_neg a3]
     cases o <;> rfl
def zzS (o : Option Int) (al : Bool) : Option Int:=match o with
 | none=>if al then some 0 else none
 | some n=>if 0 < n /\ al then some 0 else some n
def zlD (f : zw) (v' : Nat -> ByteArray) (p : zh) : Option Int:=
 if p.street = 0 then some 0 else zzS (zmP v' (zX f p) (zF (zn f p.street).1)) (zhh f (zad (v' 3) (v' 4) (v' 5)) p.street)
def zrR (f : zw) (v' : Nat -> ByteArray) (p : zh) : Option Int:=
 zww (zww (zmP v' (zX f p) (zaj (zas f p.town).1)) (zlD f v' p)) (zmP v' (zX f p) (zQ f p))
def zyD (A B D : Option (List zP)) : Option (List zP):=match A,B,D with
 | some a,some b,some d=>some (zlu (a ++ b ++ d))
 | _,_,_=>none
theorem ztb (f : zw) (c : Int) (ps : List zu) (q : zh) : zaU f c ps q = zyD (zax f c (zv ps) q.town) (zap f (zv ps) (zad (zab (zv ps) 3) (zab (zv ps) 4) (zab (zv ps) 5)) q.street) (zbu f (zv ps) q):=rfl
theorem zyF (A B D : Option (List zP)) : (zyD A B D).map zO = zww (zww (A.map zO) (B.map zO)) (D.map zO):=by
 unfold zyD;cases A <;> cases B <;> cases D <;> simp [zww];rename_i a b d;rw [zlJ (zja _),zhe,zhe,Int.add_assoc]
theorem zxy (f : zw) (fd : List ByteArray) (tx : ByteArray) (id : Int) (v' v : Nat -> ByteArray) (h : (zI fd (zF (zn f id).1)).map zO = zmP v' v (zF (zn f id).1)) :
  (zZ f fd tx id).map zO = zzS (zmP v' v (zF (zn f id).1)) (zhh f tx id):=by
 rw [<- h];unfold zZ zzS;generalize zhh f tx id = al;generalize zI fd (zF (zn f id).1) = o
 cases o with
 | none=>
  show (if al = true then some [⟨4,4,0⟩] else none : Option (List zP)).map zO = if al = true then some 0 else none
  split <;> rfl
 | some ns=>
  show (if 0 < zO ns /\ al = true then some [⟨4,4,0⟩] else some ns : Option (List zP)).map zO = if 0 < zO ns /\ al = true then some 0 else some (zO ns)
  split <;> rfl
theorem zqy (f : zw) (c : Int) (v' : Nat -> ByteArray) (p : zh) : (zaU f c (zm v') p).map zO = if (zas f p.town).1.country = c then zrR f v' p else none:=by
 have hfd : ∀ j,1 <= j -> j <= 10 -> zab (zv (zm v')) j = v' j:=zdF v'
 have ha : (zax f c (zv (zm v')) p.town).map zO = if (zas f p.town).1.country = c then zmP v' (zX f p) (zaj (zas f p.town).1) else none:=by
  unfold zax;by_cases hc : (zas f p.town).1.country = c
  ·rw [if_pos hc,if_pos hc]
   refine zrD _ v' (zX f p) _ fun r hr=>?_;simp only [zaj,List.mem_cons,List.not_mem_nil,or_false] at hr;rcases hr with rfl | rfl
   ·exact ⟨hfd 8 (by omega) (by omega),rfl⟩
   ·exact ⟨hfd 9 (by omega) (by omega),rfl⟩
  ·rw [if_neg hc,if_neg hc]; rfl
 have hb : (zap f (zv (zm v')) (zad (zab (zv (zm v')) 3) (zab (zv (zm v')) 4) (zab (zv (zm v')) 5)) p.street).map zO = zlD f v' p:=by
  rw [hfd 3 (by omega) (by omega),hfd 4 (by omega) (by omega),hfd 5 (by omega) (by omega)];unfold zap zlD;by_cases h0 : p.street = 0
  ·rw [if_pos h0,if_pos h0]; rfl
  ·rw [if_neg h0,if_neg h0]
   have hc : (zI (zv (zm v')) (zF (zn f p.street).1)).map zO = zmP v' (zX f p) (zF (zn f p.street).1):=by
    refine zrD _ v' (zX f p) _ fun r hr=>?_;simp only [zF,List.mem_cons,List.not_mem_nil,or_false] at hr;rcases hr with rfl | rfl | rfl
    ·exact ⟨hfd 3 (by omega) (by omega),rfl⟩
    ·exact ⟨hfd 4 (by omega) (by omega),rfl⟩
    ·exact ⟨hfd 5 (by omega) (by omega),rfl⟩
   exact zxy f _ _ p.street v' (zX f p) hc
 have hd : (zbu f (zv (zm v')) p).map zO = zmP v' (zX f p) (zQ f p):=by
  unfold zbu;refine zrD _ v' (zX f p) _ fun r hr=>?_;simp only [zQ,List.mem_cons,List.not_mem_nil,or_false] at hr;rcases hr with rfl | rfl | rfl | rfl | rfl
  ·exact ⟨hfd 1 (by omega) (by omega),rfl⟩
  ·exact ⟨hfd 2 (by omega) (by omega),rfl⟩
  ·exact ⟨hfd 6 (by omega) (by omega),rfl⟩
  ·exact ⟨hfd 7 (by omega) (by omega),rfl⟩
  ·exact ⟨hfd 10 (by omega) (by omega),rfl⟩
 rw [ztb,zyF,ha,hb,hd];unfold zrR
 split
 ·rfl
 ·rfl
theorem map_some {A : Type} {B : Type} {f : A -> B} {o : Option A} {b : B} (h : o.map f = some b) : ∃ a,o = some a /\ f a = b:=by
 cases o with
 | none=>cases h
 | some a=>exact ⟨a,rfl,Option.some.inj h⟩
theorem znx {A : Type} {B : Type} {f : A -> B} {o : Option A} (h : o.map f = none) : o = none:=by
 cases o with
 | none=>rfl
 | some a=>cases h
end
end Go.Proofs.YtggimnndflkjkaaGreatDoor
