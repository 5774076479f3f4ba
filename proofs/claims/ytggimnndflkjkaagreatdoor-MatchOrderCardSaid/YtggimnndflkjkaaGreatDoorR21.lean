import Derived.Test.YtggimnndflkjkaaGreatDoorR01
import Derived.Test.YtggimnndflkjkaaGreatDoorR17
import Derived.Test.YtggimnndflkjkaaGreatDoorR20
import Derived.Test.YtggimnndflkjkaaGreatDoorRows
import Derived.ProofKit
import Derived.OpenShut
import Derived.LaidMore
import Derived.Lay
import Derived.Stop.Joined
import Derived.Stop.LaidErr
import Derived.Deep.Slices
import Derived.ChangeSlices
import Derived.Below
set_option linter.all false
set_option maxRecDepth 100000
set_option maxHeartbeats 0
namespace Go.Proofs.YtggimnndflkjkaaGreatDoor
section
open Go.ChangeShapes Go.WideShapes Go.ChangeAt Go.RowKit Go.Deep
theorem zkj : ownKnob Tryz.prog.godebug = none:=by kernel_rfl
theorem zke : laidOutB Tryz.prog = true:=by kernel_rfl
theorem zfV {W : World} (h : laidMetH Tryz.prog Rows.matchOwnRow.laid W) : zbz W:=by
 rw [MakeChecks.laidMetH_plain _ _ _ (by kernel_rfl)] at h;have h1:=h.tail.tail;exact Lib.tabIs_of_head (g:=0) (zs:=Lib.pow10Tab) (by kernel_rfl) (by kernel_rfl) Tryz.underlying239 Tryz.underlying179 (by kernel_rfl) (by kernel_rfl) h1
theorem kc5 : Tryz.prog.cellsOf 5 = 1:=by kernel_rfl
theorem zAo : Tryz.prog.cellsOf 55 = 1:=by kernel_rfl
theorem zAl : Tryz.prog.cellsOf 22 = 1:=by kernel_rfl
theorem zAm : Tryz.prog.cellsOf 23 = 1:=by kernel_rfl
theorem zAn : Tryz.prog.cellsOf 25 = 4:=by kernel_rfl
section
variable {H : Type} {enc : TypeId × Value -> H} {w : World} {base : Nat} {spare : Nat -> Bool} {held : Bool}
theorem zvm {t e : TypeId} {k : IntKind} {fuel : Nat} {v : Value} {x : DataW H × List MemPlace} (ht : Tryz.prog.underlying t = some (.slice e)) (he : Tryz.prog.underlying e = some (.int k)) (hc : Tryz.prog.cellsOf e = 1)
  (h : DataW.trod enc Tryz.prog w base spare held fuel t [v] = some x) (B : Nat) (hk : ∀ n,(Lit.int k n).wf = true -> 0 <= n /\ n < (B : Int)) : ∃ l : List Nat,zkt w k v l /\ ∀ n ∈ l,n < B:=by
 rcases open_ints ht he hc h with ⟨hcs,_⟩ | ⟨a,len,cap,zs,hcs,_,hl,hm,hz,_,hcell,hwf⟩
 ·obtain rfl : v = .slice none 0 0:=by simpa using hcs
  exact ⟨[],⟨none,0,rfl,lQ _,Nat.zero_le _,fun h=>absurd h (by simp)⟩,fun _ h=>by cases h⟩
 ·obtain rfl : v = .slice (some a) len cap:=by simpa using hcs
  have hzl : len <= zs.length:=by rw [hz]; split <;> omega
  have hlen : ((zs.take len).map Int.toNat).length = len:=by simp; omega
  refine ⟨(zs.take len).map Int.toNat,⟨some a,cap,by rw [hlen],by omega,hm,fun h0=>?_⟩,fun n hn=>?_⟩
  ·have h1:=hcell 0 (by omega)
   have h2 : w.cell? a = some (.int k (zs.getD 0 0)):=by simpa [Addr.add] using h1
   obtain ⟨b,off,spot⟩:=a;have hspot : spot = none:=by simpa using World.cell?_spot h2
   subst hspot;refine ⟨b,off,rfl,World.block_lt_of_cell? w _ h2,fun i hi=>?_⟩;have hi' : i < len:=by omega
   have h3:=hcell i (by omega);rw [add_plain] at h3
   have hmem : zs.getD i 0 ∈ zs:=by
    rw [List.getD_eq_getElem?_getD,List.getElem?_eq_getElem (by omega : i < zs.length)];exact List.getElem_mem _
   have hb:=hk _ (hwf _ hmem);show w.cell? ⟨b,off + i,none⟩ = some (.int k ((((zs.take len).map Int.toNat).getD i 0 : Nat) : Int));rw [h3]
   have e : (((zs.take len).map Int.toNat).getD i 0 : Nat) = (zs.getD i 0).toNat:=by
    rw [List.getD_eq_getElem?_getD,List.getD_eq_getElem?_getD,List.getElem?_map,List.getElem?_take,if_pos hi',List.getElem?_eq_getElem (by omega : i < zs.length)];rfl
   rw [e,Int.toNat_of_nonneg hb.1]
  ·obtain ⟨z,hz1,rfl⟩:=List.mem_map.1 hn
   have hb:=hk _ (hwf _ (List.mem_of_mem_take hz1));omega
theorem zzz {α : Type} : ∀ {l : List α},l.length = 4 -> ∃ a b c d,l = [a,b,c,d]
 | [a,b,c,d],_=>⟨a,b,c,d,rfl⟩
theorem zwi {t : TypeId} {f0 f1 f2 f3 : Field} {fuel : Nat} {cs : List Value} {x : DataW H × List MemPlace} (ht : Tryz.prog.underlying t = some (.struct #[f0,f1,f2,f3])) (o0 : f0.offset = 0) (o1 : f1.offset = 1) (o2 : f2.offset = 2) (o3 : f3.offset = 3)
  (c0 : Tryz.prog.cellsOf f0.type = 1) (c1 : Tryz.prog.cellsOf f1.type = 1) (c2 : Tryz.prog.cellsOf f2.type = 1) (c3 : Tryz.prog.cellsOf f3.type = 1) (hc : Tryz.prog.cellsOf t = 4) (h : DataW.trod enc Tryz.prog w base spare held fuel t cs = some x) :
  ∃ v0 v1 v2 v3 y0 y1 y2 y3 n,cs = [v0,v1,v2,v3] /\ x.1 = .agg [y0.1,y1.1,y2.1,y3.1] /\ DataW.trod enc Tryz.prog w base spare held n f0.type [v0] = some y0 /\ DataW.trod enc Tryz.prog w base spare held n f1.type [v1] = some y1 /\ DataW.trod enc Tryz.prog w base spare held n f2.type [v2] = some y2 /\ DataW.trod enc Tryz.prog w base spare held n f3.type [v3] = some y3:=by
 obtain ⟨xs,n,_,hx,hl,hxl,hf⟩:=DataW.trod_struct ht h;rw [hc] at hl;obtain ⟨v0,v1,v2,v3,rfl⟩:=zzz hl;obtain ⟨y0,y1,y2,y3,rfl⟩:=zzz (show xs.length = 4 from hxl);have h0:=hf 0 f0 rfl;have h1:=hf 1 f1 rfl;have h2:=hf 2 f2 rfl;have h3:=hf 3 f3 rfl;rw [o0,c0] at h0;rw [o1,c1] at h1;rw [o2,c2] at h2;rw [o3,c3] at h3;exact ⟨v0,v1,v2,v3,y0,y1,y2,y3,n,rfl,by rw [hx]; rfl,h0,h1,h2,h3⟩
theorem wf_u8 (n : Int) (h : (Lit.int .u8 n).wf = true) : 0 <= n /\ n < ((256 : Nat) : Int):=by have:=bounds_u8 h; omega
theorem zzM (n : Int) (h : (Lit.int .u16 n).wf = true) : 0 <= n /\ n < ((65536 : Nat) : Int):=by have:=bounds_u16 h; omega
theorem zit {fuel : Nat} {cs : List Value} {x : DataW H × List MemPlace} (h : DataW.trod enc Tryz.prog w base spare held fuel 25 cs = some x) :
  ∃ (s : zi) (vc vp : Value),cs = [.int .u8 (s.towns : Int),.int .u8 (s.streets : Int),vc,vp] /\ zbS w vc vp s:=by
 obtain ⟨v0,v1,v2,v3,y0,y1,y2,y3,n,rfl,-,h0,h1,h2,h3⟩:=zwi Tryz.underlying25 rfl rfl rfl rfl kc5 kc5 zAl zAm zAn h;obtain ⟨a,e0,_,w0⟩:=DataW.trod_int Tryz.underlying5 h0;obtain ⟨b,e1,_,w1⟩:=DataW.trod_int Tryz.underlying5 h1;obtain rfl : v0 = .int .u8 a:=by simpa using e0
 obtain rfl : v1 = .int .u8 b:=by simpa using e1
 obtain ⟨l1,hl1,hb1⟩:=zvm Tryz.underlying22 Tryz.underlying5 kc5 h2 256 wf_u8;obtain ⟨l2,hl2,hb2⟩:=zvm Tryz.underlying23 Tryz.underlying55 zAo h3 65536 zzM;have ha:=wf_u8 _ w0;have hb:=wf_u8 _ w1;refine ⟨⟨a.toNat,b.toNat,l1,l2⟩,v2,v3,?_,hl1,hl2,hb1,hb2,by show a.toNat < 256; omega,by show b.toNat < 256; omega⟩;show _ = [Value.int .u8 ((a.toNat : Nat) : Int),Value.int .u8 ((b.toNat : Nat) : Int),v2,v3];rw [Int.toNat_of_nonneg ha.1,Int.toNat_of_nonneg hb.1]
end
end
end Go.Proofs.YtggimnndflkjkaaGreatDoor
