import Derived.Test.YteclineblddpbaaGreatDoorRC01
import Derived.Test.YteclineblddpbaaGreatDoorRC34
import Derived.Laws.MakeOwn
set_option linter.all false
set_option maxRecDepth 100000
set_option maxHeartbeats 0
namespace Go.Proofs.YteclineblddpbaaGreatDoorR
section
open Go Go.RowKit Go.Maps
structure MRead where
 c : Int
 v : Value
 ps : List PPart
def rdCells (m : MRead) : List Value:=[.int .u8 m.c,m.v]
def rdIn (P : Nat -> Prop) (w : World) (m : MRead) : Prop:=SlP P w m.v m.ps.length fun b off i=>IsPart w b (off + i * 2) (m.ps.getD i PPart.zero)
theorem rdIn_inner : Inner rdIn:=⟨fun {P Q w w' m} h hk hPQ=>SlP.map h hk.size (fun b hb hp=>hPQ b hb hp) fun b off i hb hp _ hr=>⟨(hk.cell hb hp).trans hr.1,(hk.cell hb hp).trans hr.2⟩⟩
abbrev OwnReads:=OwnL 42 2 rdCells rdIn
theorem info42 : (Tryz.prog.info? 42).map (fun i=>(i.zero,i.size,i.bytes)) = some (some (.agg #[.int .u8 0,.slice none 0 0]),4 - 2,32):=by kernel_rfl
theorem OwnParts.rdIn_ {base : Nat} {w : World} {v : Value} {ps : List PPart} (h : OwnParts base w v ps) {P : Nat -> Prop} (hP : ∀ b,base <= b -> P b) (c : Int) : rdIn P w ⟨c,v,ps⟩:=by
 have hsl:=OwnL.sl h (fun _=>rfl)
 refine SlP.map hsl (lQ _) (fun b _ hb=>hP b hb) fun b off i _ _ hi hr=>?_
 have h0:=hr.2.2 hi 0 (by omega)
 have h1:=hr.2.2 hi 1 (by omega)
 show IsPart w b (off + i * 2) (ps.getD i PPart.zero)
 rw [getD_at _ _ _ hi]
 exact ⟨h0,h1⟩
def fixName (fd : List ByteArray) (k : Nat) : List ByteArray:=fd.set k (nameP (fd.getD k ⟨#[]⟩)).1
def fixPre (fd : List ByteArray) : List ByteArray:=(longsOf 1 (fd.getD 3 ⟨#[]⟩)).foldl (fun f x=>f.set 3 x) fd
def fixCode (fd : List ByteArray) : List ByteArray:=fd.set 10 (delB (fd.getD 10 ⟨#[]⟩))
def fixAll (fd : List ByteArray) : List ByteArray:=fixPre (fixCode (fixName (fixName fd 4) 8))
def sufs (fd : List ByteArray) : List ByteArray:=if (longsOf 2 (fd.getD 5 ⟨#[]⟩)).length = 0 then [⟨#[]⟩] else longsOf 2 (fd.getD 5 ⟨#[]⟩)
def readP (fd : List ByteArray) : List (List PPart):=(sufs (fixAll fd)).map fun x=>ptsTo ((fixAll fd).set 5 x) 11
theorem make_u16 (n : Nat) (hn : n <= 1000000) (w : World) : (Instr.makeSlice 93 (.int .i64 (n : Int)) (.int .i64 (n : Int))).run Tryz.prog w = .ok (.slice (some ⟨w.heap.size,0,none⟩) n n) (w.alloc (.cells (madeCells #[.int .u16 0] n) 37)):=by
 obtain ⟨i0,hi0,hz0,hz1,hz2⟩:=info_parts infoU16
 have:=run_make (P:=Tryz.prog) w 93 37 i0 _ Tryz.underlying93 hi0 hz0 .i64 .i64 (n : Int) (n : Int) (by omega) (by omega) (by rw [hz2]; omega) (by omega)
 rw [this,hz1]
 simp [Value.cells]
def ClsTo (s : List PTok) (k : Nat) (cs : Array Value) : Prop:=cs.size = s.length /\ ∀ i,i < k -> cs[i]? = some (.int .u16 (s.getD i PTok.zero).cls)
theorem ClsTo.step {s : List PTok} {k : Nat} {cs : Array Value} (h : ClsTo s k cs) (hk : k < s.length) : ClsTo s (k + 1) (cs.setIfInBounds k (.int .u16 (s.getD k PTok.zero).cls)):=by
 refine ⟨by rw [Array.size_setIfInBounds]; exact h.1,fun i hi=>?_⟩
 rw [Array.getElem?_setIfInBounds]
 by_cases e : k = i
 ·subst e
  rw [if_pos rfl,if_pos (by rw [h.1]; exact hk)]
 ·rw [if_neg e]
  exact h.2 i (by omega)
theorem ClsTo.nats {s : List PTok} {cs : Array Value} {w : World} {b : Nat} (h : ClsTo s s.length cs) (hb : Blk w b 37 cs) (h0 : ∀ t ∈ s,0 <= t.cls) (hn : s.length <= 1000) : NatsO .u16 (fun _=>False) w (.slice (some ⟨b,0,none⟩) s.length s.length) (s.map fun t=>t.cls.toNat):=by
 refine ⟨_,_,by rw [List.length_map],by rw [List.length_map]; exact lQ _,by unfold maxLen; omega,fun _=>⟨b,0,rfl,hb.lt,fun h=>h,fun i hi=>?_⟩⟩
 rw [List.length_map] at hi
 have h1:=hb.cell i
 rw [h.2 i hi] at h1
 rw [Nat.zero_add,h1,getD_at _ _ _ hi,getD_at _ _ _ (by simpa using hi),List.getElem_map]
 have h2:=h0 _ (List.getElem_mem hi)
 have h3 : ((s[i].cls.toNat : Nat) : Int) = s[i].cls:=by omega
 rw [h3]
def ReadR (c : Int) (xs : List (List PPart)) (w : World) (e : Ending) (w' : World) : Prop:=∃ v ms,e = .returned (.tuple #[v,.int .i64 0]) /\ OwnReads w.heap.size w' v ms /\ ms.map (·.ps) = xs /\ (∀ m ∈ ms,m.c = c) /\ Below w.heap.size w w'
theorem GramAt.parts {B : Nat} {w : World} {rv pv : Value} {rs : List MRule} {ps : List MPart} (h : GramAt B w rv pv rs ps) {P : Nat -> Prop} (hP : ∀ b,B <= b -> P b) : PartsP P w pv (ps.map MPart.ks):=by
 obtain ⟨A,c,hv,hn,hc,hA⟩:=OwnL.sl h.ownp (fun _=>rfl)
 refine ⟨A,c,by rw [List.length_map]; exact hv,by rw [List.length_map]; exact hn,hc,fun h0=>?_⟩
 obtain ⟨b,off,e,hb,hp,hi⟩:=hA (by simpa using h0)
 refine ⟨b,off,e,hb,hP b hp,fun i hi'=>?_⟩
 rw [List.length_map] at hi'
 have hr:=(hi i hi').2.2 hi' 0 (by omega)
 refine ⟨ps[i].v,by simpa [mpCells] using hr,?_⟩
 rw [getD_at _ _ _ (by simpa using hi'),List.getElem_map]
 exact (h.inp _ (List.getElem_mem hi')).keep (lQ _) (fun _ _ _ _ h=>h) fun b _ hb=>hP b hb.1
theorem GramAt.rulesP {B : Nat} {w : World} {rv pv : Value} {rs : List MRule} {ps : List MPart} (h : GramAt B w rv pv rs ps) {P : Nat -> Prop} (hP : ∀ b,B <= b -> P b) : RulesP P w rv (rs.map MRule.rule):=by
 obtain ⟨A,c,hv,hn,hc,hA⟩:=OwnL.sl h.own (fun _=>rfl)
 refine ⟨A,c,by rw [List.length_map]; exact hv,by rw [List.length_map]; exact hn,hc,fun h0=>?_⟩
 obtain ⟨b,off,e,hb,hp,hi⟩:=hA (by simpa using h0)
 refine ⟨b,off,e,hb,hP b hp,fun i hi'=>?_⟩
 rw [List.length_map] at hi'
 have hr:=hi i hi'
 have h0:=hr.2.2 hi' 0 (by omega)
 have h1:=hr.2.2 hi' 1 (by omega)
 rw [getD_at _ _ _ (by simpa using hi'),List.getElem_map]
 exact ⟨by simpa [mrCells,MRule.rule] using h0,rs[i].v,by simpa [mrCells] using h1,(h.inr _ (List.getElem_mem hi')).keep (lQ _) (fun _ _ _ _ h=>h) fun b _ hb=>hP b hb.1⟩
end
end Go.Proofs.YteclineblddpbaaGreatDoorR
