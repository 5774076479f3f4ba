import Derived.Test.YtggimnndflkjkaaGreatDoorC01
import Derived.Test.YtggimnndflkjkaaGreatDoorC41
import Derived.Test.YtggimnndflkjkaaGreatDoorC47
set_option linter.all false
set_option maxRecDepth 100000
set_option maxHeartbeats 0
namespace Go.Proofs.YtggimnndflkjkaaGreatDoor
section
open Go.RowKit Go.Maps
def zbH (m : Nat) (v : Nat -> ByteArray) (k : Nat) : ByteArray:=if m.testBit k then ⟨#[]⟩ else v k
def zbZ (m : Nat) (v : Nat -> ByteArray) (k : Nat) : Bool:=m.testBit k && decide ((v k).size ≠ 0)
theorem zve (m : Nat) (v : Nat -> ByteArray) : ∀ k,zbV m (zG v k) = zG (zbH m v) k
 | 0=>rfl
 | k + 1=>by
  have ih:=zve m v k;unfold zbV at ih ⊢;rw [zG,zG,List.filter_append,ih];congr 1;unfold zbH;by_cases hb : m.testBit (k + 1) = true
  ·rw [if_pos hb,if_pos (show (⟨#[]⟩ : ByteArray).size = 0 from rfl)]
   split
   ·rfl
   ·simp [hb]
  ·rw [if_neg hb]
   split
   ·rfl
   ·simp [hb]
theorem zsZ (m : Nat) (v : Nat -> ByteArray) : zbV m (zm v) = zm (zbH m v):=zve m v 10
theorem zkM (m : Nat) (v : Nat -> ByteArray) (k : Nat) : decide ((zbH m v k).size ≠ 0) = (!m.testBit k && decide ((v k).size ≠ 0)):=by
 unfold zbH;cases m.testBit k
 ·simp
 ·simp only [if_true,Bool.not_true,Bool.false_and]
  rfl
theorem zwQ {t m : Nat} {v : Nat -> ByteArray} (h : zsj t v) (h89 : m.testBit 8 = true -> m.testBit 9 = true) :
  ((zbZ m v 1 || zbZ m v 2 || zbZ m v 4 || zbZ m v 7) = false -> (m.testBit 8 && m.testBit 10) = false -> zR (zx t : Nat) (zm (zbH m v)) = true) /\ ((m.testBit 8 && m.testBit 10) = true -> zR (zx t : Nat) (zm (zbH m v)) = false):=by
 have e : ∀ k : Nat,zgz (zbH m v) (k : Int) = (!m.testBit k && decide ((v k).size ≠ 0)):=fun k=>zkM m v k;have e1:=e 1;have e2:=e 2;have e3:=e 3;have e4:=e 4;have e5:=e 5;have e6:=e 6;have e7:=e 7;have e8:=e 8;have e9:=e 9;have e10:=e 10
 have hfit : zmu (zx t : Nat) (zgz (zbH m v)) = (if !m.testBit 7 && decide ((v 7).size ≠ 0) then (if (!m.testBit 1 && decide ((v 1).size ≠ 0)) || (!m.testBit 2 && decide ((v 2).size ≠ 0)) || (!m.testBit 3 && decide ((v 3).size ≠ 0)) || (!m.testBit 4 && decide ((v 4).size ≠ 0)) || (!m.testBit 5 && decide ((v 5).size ≠ 0)) then false else zdY (zx t : Nat) (zgz (zbH m v))) else (if !(!m.testBit 1 && decide ((v 1).size ≠ 0)) || !(!m.testBit 4 && decide ((v 4).size ≠ 0)) then false else zdY (zx t : Nat) (zgz (zbH m v)))):=by
  unfold zmu;rw [show zgz (zbH m v) 7 = _ from e7,show zgz (zbH m v) 1 = _ from e1,show zgz (zbH m v) 2 = _ from e2,show zgz (zbH m v) 3 = _ from e3,show zgz (zbH m v) 4 = _ from e4,show zgz (zbH m v) 5 = _ from e5]
 have hrest : zdY (zx t : Nat) (zgz (zbH m v)) = !(m.testBit 8 && m.testBit 10):=by
  unfold zdY;rw [show zgz (zbH m v) 8 = _ from e8,show zgz (zbH m v) 10 = _ from e10,show zgz (zbH m v) 9 = _ from e9,show zgz (zbH m v) 2 = _ from e2,show zgz (zbH m v) 3 = _ from e3,show zgz (zbH m v) 6 = _ from e6];have hc:=zkp t;have hc1:=h.c1;have hc2:=h.c2;have hc3:=h.c3;have ht:=h.town;have hcd:=h.code;have hcc : zx t = 1 \/ zx t = 2 \/ zx t = 3:=by omega
  rcases hcc with hcc | hcc | hcc
  ·have:=hc1 hcc
   cases h8 : m.testBit 8
   ·simp_all
   ·have:=h89 h8
    cases h10 : m.testBit 10 <;> simp_all
  ·have:=hc2 hcc
   cases h8 : m.testBit 8
   ·simp_all
   ·have:=h89 h8
    cases h10 : m.testBit 10 <;> simp_all
  ·have:=hc3 hcc
   cases h8 : m.testBit 8
   ·simp_all
   ·have:=h89 h8
    cases h10 : m.testBit 10 <;> simp_all
 rw [hrest] at hfit;constructor
 ·intro hg h810
  refine (zeP _ _).2 ⟨fun k h1 h2 hz=>?_,?_⟩
  ·unfold zbH at hz ⊢
   split at hz
   ·exact absurd rfl hz
   ·rename_i hb
    rw [if_neg hb];exact zvV (h.tf k h1 h2) hz
  ·rw [hfit,h810]
   unfold zbZ at hg;rcases h.fit with ⟨f7,f1,f2,f3,f4,f5⟩ | ⟨f7,f1,f4⟩
   ·have hb7 : m.testBit 7 = false:=by
     cases hb : m.testBit 7
     ·rfl
     ·rw [hb] at hg; simp [f7] at hg
    simp [f7,f1,f2,f3,f4,f5,hb7]
   ·have hb1 : m.testBit 1 = false:=by
     cases hb : m.testBit 1
     ·rfl
     ·rw [hb] at hg; simp [f1] at hg
    have hb4 : m.testBit 4 = false:=by
     cases hb : m.testBit 4
     ·rfl
     ·rw [hb] at hg; simp [f4] at hg
    simp [f7,f1,f4,hb1,hb4]
 ·intro h810
  cases hr : zR (zx t : Nat) (zm (zbH m v)) with
  | false=>rfl
  | true=>
   have h2:=((zeP _ _).1 hr).2;rw [hfit,h810] at h2
   split at h2 <;> split at h2 <;> cases h2
end
section
open Go.RowKit Go.Maps
def zAZ (f : zw) (k : Nat) : zw:={ f with points:=f.points.take k ++ f.points.drop (k + 1) }
theorem zBa (f : zw) (k : Nat) : (zAZ f k).points.Sublist f.points:=by
 show (f.points.take k ++ f.points.drop (k + 1)).Sublist f.points;rw [<- List.eraseIdx_eq_take_drop_succ];exact List.eraseIdx_sublist ..
theorem zBw (x : zi) (k : Nat) : znU (zAZ (zb x) k) where
 few:=by
  have h:=(zmZ x).few;have hl:=(zBa (zb x) k).length_le;exact ⟨h.1,h.2.1,h.2.2.1,Nat.le_trans hl h.2.2.2⟩
 t1:=(zmZ x).t1
 t2:=(zmZ x).t2
 s1:=(zmZ x).s1
 s2:=(zmZ x).s2
 r1:=(zmZ x).r1
 r2:=(zmZ x).r2
 p1:=fun p hp=>(zmZ x).p1 p ((zBa (zb x) k).subset hp)
 p2:=(zmZ x).p2.sublist (zBa (zb x) k)
theorem zBm (x : zi) (k : Nat) : zae (zAZ (zb x) k) = true:=zxF (zBw x k)
theorem zBq (x : zi) (k : Nat) : zks (zAZ (zb x) k):=
 ⟨(zbv x).t,(zbv x).s,(zbv x).r,fun p hp=>(zbv x).p p ((zBa (zb x) k).subset hp)⟩
theorem zBr (x : zi) (k : Nat) : zrv (zAZ (zb x) k):=⟨(zbl x).t,(zbl x).s,fun p hp=>(zbl x).p p ((zBa (zb x) k).subset hp)⟩
theorem zBi (x : zi) (k : Nat) : (zAZ (zb x) k).points.Pairwise fun a b=>a.id ≠ b.id:=(zce x).sublist (zBa (zb x) k)
theorem zBd : ∀ (l : List zh) (k : Nat) (h : k < l.length),l.Pairwise (fun a b=>a.id ≠ b.id) -> l.take k ++ l.drop (k + 1) = l.filter fun p=>decide (p.id ≠ (l[k]'h).id)
 | [],_,h,_=>by cases h
 | a :: l,0,_,hp=>by
  rw [List.pairwise_cons] at hp;rw [tZ,List.nil_append,dS,dZ,List.filter_cons,if_neg (by simp)];exact (List.filter_eq_self.2 fun b hb=>by simp; exact fun e=>hp.1 b hb e.symm).symm
 | a :: l,k + 1,h,hp=>by
  rw [List.pairwise_cons] at hp;have h' : k < l.length:=by simpa using h
  have ih:=zBd l k h' hp.2;rw [tS,dS,List.cons_append,ih,List.filter_cons];simp only [gQ];rw [if_pos (decide_eq_true (hp.1 _ (List.getElem_mem h')))]
theorem zBe (f : zw) (c : Int) (ps : List zu) (id : Int) : ∀ l : List zh,zcq f c ps (l.filter fun p=>decide (p.id ≠ id)) = (zcq f c ps l).filter fun m=>decide (m.point ≠ id)
 | []=>rfl
 | p :: l=>by
  have ih:=zBe f c ps id l;unfold zcq at ih ⊢
  have ht : ∀ m,zhg f c ps p = some m -> m.point = p.id:=fun m h=>by
   unfold zhg at h;obtain ⟨ns,-,h2⟩:=map_some h;rw [<- h2]
  rw [List.filter_cons,List.filterMap_cons]
  cases hm : zhg f c ps p with
  | none=>
   simp only
   split
   ·rw [List.filterMap_cons,hm,ih]
   ·exact ih
  | some m=>
   have hid:=ht m hm;simp only [List.filter_cons,hid]
   split
   ·rw [List.filterMap_cons,hm,ih]
   ·exact ih
theorem zBs (x : zi) (k : Nat) (h : k < (zb x).points.length) (c : Int) (ps : List zu) :
  ziF (zAZ (zb x) k) c ps = (ziF (zb x) c ps).filter fun m=>decide (m.point ≠ ((zb x).points[k]'h).id):=by
 have hf : zcq (zAZ (zb x) k) c ps (zAZ (zb x) k).points = (zcq (zb x) c ps (zb x).points).filter fun m=>decide (m.point ≠ ((zb x).points[k]'h).id):=by
  rw [<- zBe,<- zBd _ k h (zce x)];rfl
 have ha:=zgy (zb x) c ps (zb x).points (zce x);unfold ziF;rw [hf];refine zjc leM _ _ ?_ (zfg leM zvc zxN _) ((zfg leM zvc zxN _).filter _) ?_
 ·exact (zfB leM _).trans ((zfB leM _).symm.filter _)
 ·intro a hma b hmb h1 h2
  have ma:=(List.mem_filter.1 ((zfB leM _).mem_iff.1 hma)).1;have mb:=(List.mem_filter.1 ((zfB leM _).mem_iff.1 hmb)).1
  have he : a.point = b.point:=by
   unfold leM at h1 h2;simp at h1 h2;omega
  exact zfR ha ma mb (fun h=>h he) (fun h=>h he.symm)
end
end Go.Proofs.YtggimnndflkjkaaGreatDoor
