import Derived.Test.YteclineblddpbaaGreatDoorRProg
import Derived.WalkKit
import Derived.WalkSpells
import Derived.WalkLawsBesides
import Derived.Lib.Hide
import Derived.Lib.Strings
import Derived.Laws.ResultCell
import Derived.Laws.Rows
import Derived.Deep.QuietTactic
import Derived.BigQuiet
import Derived.Deep.AppendLies
import Derived.KernelRfl
import Derived.Great.BuildSlice
import Derived.Deep.WholeRow
import Derived.Deep.DeepCutAuto
import Derived.Deep.CutBlock
import Derived.Maps.AppendAt
import Derived.Deep.Onto
import Derived.Laws.OwnMore
import Derived.Laws.MakeOwn
import Derived.Deep.OwnRows
set_option linter.all false
set_option maxRecDepth 100000
set_option maxHeartbeats 0
namespace Go.Proofs.YteclineblddpbaaGreatDoorR
universe u
theorem sX {α : Type u} (l : List α) (i : Nat) (a : α) : l.toArray.setIfInBounds i a = (l.set i a).toArray := List.setIfInBounds_toArray l i a
theorem sS {α : Type u} {x : α} {xs : List α} {i : Nat} {a : α} : (x :: xs).set (i + 1) a = x :: xs.set i a := rfl
theorem sZ {α : Type u} {x : α} {xs : List α} {a : α} : (x :: xs).set 0 a = a :: xs := rfl
theorem gX {α : Type u} {xs : List α} {i : Nat} (h : i < xs.toArray.size) : xs.toArray[i] = xs[i]'h := rfl
theorem gQ {α : Type u} (a : α) (l : List α) (i : Nat) (h : i + 1 < (a :: l).length) : (a :: l)[i + 1] = l[i]'(Nat.lt_of_succ_lt_succ h) := rfl
theorem gZ {α : Type u} (a : α) (l : List α) (h : 0 < (a :: l).length) : (a :: l)[0] = a := rfl
theorem mS {α : Type u} {a b : α} : a ∈ [b] ↔ a = b := List.mem_singleton
theorem tS {α : Type u} {i : Nat} {a : α} {l : List α} : (a :: l).take (i + 1) = a :: l.take i := rfl
theorem tZ {α : Type u} {l : List α} : l.take 0 = [] := rfl
theorem dS {α : Type u} {a : α} {l : List α} {i : Nat} : (a :: l).drop (i + 1) = l.drop i := rfl
theorem dZ {α : Type u} {l : List α} : l.drop 0 = l := rfl
theorem lQ (n : Nat) : n ≤ n := Nat.le_refl n
theorem Hd {p : Prop} (h : p) : Go.RowKit.Hid p := h
section
open Go.RowKit
def Sl (w : World) (v : Value) (n : Nat) (R : Nat -> Nat -> Nat -> Prop) : Prop:=
 ∃ A c,v = .slice A n c /\ n <= c /\ c <= maxLen /\ (0 < n -> ∃ b off,A = some ⟨b,off,none⟩ /\ b < w.heap.size /\ ∀ i,i < n -> R b off i)
theorem bcell {W w1 : World} (hb : Below W.heap.size W w1) : (∀ b o,b < W.heap.size -> w1.cell? ⟨b,o,none⟩ = W.cell? ⟨b,o,none⟩) /\ (∀ b o,b < W.heap.size -> w1.frozen? ⟨b,o,none⟩ = W.frozen? ⟨b,o,none⟩):=
 ⟨fun b o h=>hb.cell (p:=⟨b,o,none⟩) h,fun b o h=>hb.frozen (p:=⟨b,o,none⟩) h⟩
theorem ret_bool {a b : Bool} (h : a = b) : Ending.returned (.bool a) = .returned (.bool b):=by rw [h]
theorem ret_int {k : IntKind} {a b : Int} (h : a = b) : Ending.returned (.int k a) = .returned (.int k b):=by rw [h]
theorem ret_two {k l : IntKind} {a b c d : Int} (h : a = b) (h2 : c = d) : Ending.returned (.tuple #[.int k a,.int l c]) = .returned (.tuple #[.int k b,.int l d]):=by rw [h,h2]
def Stays (w w' : World) : Prop:=w.heap.size <= w'.heap.size /\ ∀ p : Addr,p.block < w.heap.size -> w'.cell? p = w.cell? p
theorem Stays.of {w w' : World} (h : Below w.heap.size w w') : Stays w w':=⟨h.size,fun _ hp=>h.cell hp⟩
theorem Stays.refl (w : World) : Stays w w:=⟨lQ _,fun _ _=>rfl⟩
theorem Stays.trans {a b c : World} (h : Stays a b) (k : Stays b c) : Stays a c:=
 ⟨Nat.le_trans h.1 k.1,fun p hp=>(k.2 p (Nat.lt_of_lt_of_le hp h.1)).trans (h.2 p hp)⟩
theorem Sl.stays {w w' : World} {v : Value} {n : Nat} {R R' : Nat -> Nat -> Nat -> Prop} (h : Sl w v n R) (hs : Stays w w')
  (hR : ∀ b off i,b < w.heap.size -> i < n -> R b off i -> R' b off i) : Sl w' v n R':=by
 obtain ⟨A,c,hv,hn,hc,hA⟩:=h
 refine ⟨A,c,hv,hn,hc,fun h0=>?_⟩
 obtain ⟨b,off,e,hb,hi⟩:=hA h0
 exact ⟨b,off,e,Nat.lt_of_lt_of_le hb hs.1,fun i hin=>hR b off i hb hin (hi i hin)⟩
def Blk (w : World) (g : Nat) (t : TypeId) (cs : Array Value) : Prop:=w.heap[g]? = some (.cells cs t (0,0))
section
variable {w w' : World} {g : Nat} {t : TypeId} {cs : Array Value}
theorem Blk.lt (h : Blk w g t cs) : g < w.heap.size:=by
 rcases Nat.lt_or_ge g w.heap.size with hlt | hge
 ·exact hlt
 ·unfold Blk at h; rw [Array.getElem?_eq_none hge] at h; cases h
theorem Blk.cell (h : Blk w g t cs) (i : Nat) : w.cell? ⟨g,i,none⟩ = cs[i]?:=cell_of_row w g i cs t (0,0) h
theorem Blk.frozen (h : Blk w g t cs) (i : Nat) : w.frozen? ⟨g,i,none⟩ = false:=by
 unfold Blk at h
 simp [World.frozen?,h]
theorem Blk.new (w : World) (t : TypeId) (cs : Array Value) : Blk (w.alloc (.cells cs t)) w.heap.size t cs:=heap_alloc_new w _
theorem Blk.new_at (w : World) (t : TypeId) (cs : Array Value) (n : Nat) (h : n = w.heap.size) : Blk (w.alloc (.cells cs t)) n t cs:=by subst h; exact Blk.new w t cs
theorem Blk.alloc (h : Blk w g t cs) (o : Obj) : Blk (w.alloc o) g t cs:=(Below.heap_alloc w o g h.lt).trans h
theorem Blk.set_ (h : Blk w g t cs) (i : Nat) (u : Value) : Blk (w.setCell ⟨g,i,none⟩ u) g t (cs.setIfInBounds i u):=by
 unfold Blk at h ⊢
 simp [World.setCell,Array.getElem?_modify,h]
theorem Blk.far (h : Blk w g t cs) {p : Addr} (hp : g ≠ p.block) (u : Value) : Blk (w.setCell p u) g t cs:=(Below.heap_setCell w p u g hp).trans h
theorem Blk.below {B : Nat} (h : Blk w g t cs) (hb : Below B w w') (hg : g < B) : Blk w' g t cs:=(hb.block g hg).trans h
theorem Blk.grown {row : Option Nat} (h : Blk w g t cs) (hb : w.grownBy w' row) (hg : some g ≠ row) : Blk w' g t cs:=(hb.block g h.lt hg).trans h
end
structure Ups (w : World) where
 wld : World
 up : Below w.heap.size w wld
instance (w : World) : Nonempty (Ups w):=⟨⟨w,Below.refl _ _⟩⟩
theorem wp_region_ups {P : Program} {id : Nat} {Q : Exit -> Act -> World -> Prop} {a : Act} {w : World} {l : List Oper} (hm : P.follows .mixedOrders = true) (hB : Region.lexB .any l.toArray = true)
  (h : wpQuiet P l.toArray (fun w'=>∃ u : Ups w,w' = u.wld) (fun a'=>∀ w',(∃ u : Ups w,w' = u.wld) -> Q .normal a' w') l a) : (Code.region id l.toArray true).wp P Q a w:=
 wp_region_quiet (C:=fun w'=>∃ u : Ups w,w' = u.wld) hm hB ⟨⟨_,(Below.refl _ _).drew⟩,rfl⟩ (by simpa using h)
theorem calls_ups {P : Program} {f : FuncId} {args : Array Value} {w : World} {v : Value} {u : Ups w} (h : Calls P f args u.wld fun e w'=>e = .returned v /\ Below u.wld.heap.size u.wld w') :
  Calls P f args u.wld fun e w''=>e = .returned v /\ ∃ u' : Ups w,w'' = u'.wld:=
 h.mono fun _ _ ⟨he,hb⟩=>⟨he,⟨⟨_,u.up.trans (hb.mono u.up.size)⟩,rfl⟩⟩
theorem calls_ups_eq {P : Program} {f : FuncId} {args : Array Value} {w : World} {v : Value} {u : Ups w} (h : Calls P f args u.wld fun e w'=>e = .returned v /\ w' = u.wld) :
  Calls P f args u.wld fun e w''=>e = .returned v /\ ∃ u' : Ups w,w'' = u'.wld:=
 h.mono fun _ _ ⟨he,hb⟩=>⟨he,⟨u,hb⟩⟩
theorem Ups.stays {w : World} (u : Ups w) : Stays w u.wld:=Stays.of u.up
theorem Ups.cellAt {w : World} {b o : Nat} {v : Option Value} (h : w.cell? ⟨b,o,none⟩ = v) (hb : b < w.heap.size) (u : Ups w) : u.wld.cell? ⟨b,o,none⟩ = v:=(u.up.cell hb).trans h
theorem drop_getD {α : Type} (l : List α) (d : α) (k : Nat) (h : k < l.length) : l.drop k = l.getD k d :: l.drop (k + 1):=by
 rw [List.drop_eq_getElem_cons h,List.getD_eq_getElem?_getD,List.getElem?_eq_getElem h]; rfl
theorem tl_inj {a b : ByteArray} (h : a.toList = b.toList) : a = b:=by
 rw [Lib.toList_data,Lib.toList_data] at h
 exact ByteArray.ext (Array.toList_inj.1 h)
theorem tl_ne {a b : ByteArray} (h : a ≠ b) : (a.toList == b.toList) = false:=by
 cases e : a.toList == b.toList
 ·rfl
 ·exact absurd (tl_inj (by simpa using e)) h
theorem tl_nil {a : ByteArray} (h : a.toList.isEmpty = true) : a = ⟨#[]⟩:=by
 refine tl_inj ?_
 rw [List.isEmpty_iff.1 h,Lib.toList_data]
theorem tl_nn {a : ByteArray} (h : a.toList.isEmpty = false) : a ≠ ⟨#[]⟩:=by
 rintro rfl
 rw [Lib.toList_data] at h
 cases h
theorem getD_at {α : Type} (l : List α) (d : α) (i : Nat) (h : i < l.length) : l.getD i d = l[i]:=by
 rw [List.getD_eq_getElem?_getD,List.getElem?_eq_getElem h]; rfl
theorem tl_beq (a b : ByteArray) : (a.toList == b.toList) = decide (a = b):=by
 by_cases h : a = b
 ·subst h; simp
 ·rw [tl_ne h]; exact (decide_eq_false h).symm
def IsTexts (w : World) (v : Value) (l : List ByteArray) : Prop:=
 Sl w v l.length fun b off i=>w.cell? ⟨b,off + i,none⟩ = some (.string (l.getD i ByteArray.empty)) /\ (l.getD i ByteArray.empty).size <= maxLen
theorem IsTexts.stays {w w' : World} {v : Value} {l : List ByteArray} (h : IsTexts w v l) (hs : Stays w w') : IsTexts w' v l:=
 Sl.stays h hs fun _ _ _ hb _ hc=>⟨(hs.2 _ hb).trans hc.1,hc.2⟩
theorem below_n {B : Nat} {a w : World} (h : Below B a w) (n : Nat) : Below B a (w.drewN n):=⟨h.os,h.tape,h.output,h.size,h.block⟩
def memB {α : Type} [DecidableEq α] (a : α) (l : List α) : Bool:=l.any fun x=>decide (x = a)
theorem memB_iff {α : Type} [DecidableEq α] {a : α} {l : List α} : memB a l = true ↔ a ∈ l:=by simp [memB]
theorem memB_false {α : Type} [DecidableEq α] {a : α} {l : List α} (h : a ∉ l) : memB a l = false:=by
 cases hm : memB a l
 ·rfl
 ·exact absurd (memB_iff.1 hm) h
end
section
open Go.RowKit
structure Row where
 kind : Int
 long : ByteArray
 short : ByteArray
def rowCells (r : Row) : List Value:=[.int .u8 r.kind,.string r.long,.string r.short]
def table : List Row:=[
 ⟨1,⟨#[78,79,82,84,72]⟩,⟨#[78]⟩⟩,
 ⟨1,⟨#[83,79,85,84,72]⟩,⟨#[83]⟩⟩,
 ⟨1,⟨#[69,65,83,84]⟩,⟨#[69]⟩⟩,
 ⟨1,⟨#[87,69,83,84]⟩,⟨#[87]⟩⟩,
 ⟨1,⟨#[78,79,82,84,72,69,65,83,84]⟩,⟨#[78,69]⟩⟩,
 ⟨1,⟨#[78,79,82,84,72,87,69,83,84]⟩,⟨#[78,87]⟩⟩,
 ⟨1,⟨#[83,79,85,84,72,69,65,83,84]⟩,⟨#[83,69]⟩⟩,
 ⟨1,⟨#[83,79,85,84,72,87,69,83,84]⟩,⟨#[83,87]⟩⟩,
 ⟨2,⟨#[83,84,82,69,69,84]⟩,⟨#[83,84]⟩⟩,
 ⟨2,⟨#[65,86,69,78,85,69]⟩,⟨#[65,86,69]⟩⟩,
 ⟨2,⟨#[65,86,69,78,85,69]⟩,⟨#[65,86]⟩⟩,
 ⟨2,⟨#[82,79,65,68]⟩,⟨#[82,68]⟩⟩,
 ⟨2,⟨#[68,82,73,86,69]⟩,⟨#[68,82]⟩⟩,
 ⟨2,⟨#[76,65,78,69]⟩,⟨#[76,78]⟩⟩,
 ⟨2,⟨#[67,79,85,82,84]⟩,⟨#[67,84]⟩⟩,
 ⟨2,⟨#[80,76,65,67,69]⟩,⟨#[80,76]⟩⟩,
 ⟨2,⟨#[83,81,85,65,82,69]⟩,⟨#[83,81]⟩⟩,
 ⟨2,⟨#[66,79,85,76,69,86,65,82,68]⟩,⟨#[66,76,86,68]⟩⟩,
 ⟨2,⟨#[84,69,82,82,65,67,69]⟩,⟨#[84,69,82]⟩⟩,
 ⟨2,⟨#[72,73,71,72,87,65,89]⟩,⟨#[72,87,89]⟩⟩,
 ⟨2,⟨#[67,82,69,83,67,69,78,84]⟩,⟨#[67,82,69,83]⟩⟩,
 ⟨2,⟨#[87,65,89]⟩,⟨#[87,65,89]⟩⟩,
 ⟨2,⟨#[83,84,82,65,83,83,69]⟩,⟨#[83,84,82]⟩⟩,
 ⟨2,⟨#[80,76,65,84,90]⟩,⟨#[80,76]⟩⟩,
 ⟨2,⟨#[87,69,71]⟩,⟨#[87,69,71]⟩⟩,
 ⟨2,⟨#[65,76,76,69,69]⟩,⟨#[65,76]⟩⟩,
 ⟨3,⟨#[65,80,65,82,84,77,69,78,84]⟩,⟨#[65,80,84]⟩⟩,
 ⟨3,⟨#[83,85,73,84,69]⟩,⟨#[83,84,69]⟩⟩,
 ⟨3,⟨#[70,76,79,79,82]⟩,⟨#[70,76]⟩⟩,
 ⟨3,⟨#[82,79,79,77]⟩,⟨#[82,77]⟩⟩,
 ⟨3,⟨#[70,76,65,84]⟩,⟨#[70,76]⟩⟩,
 ⟨3,⟨#[85,78,73,84]⟩,⟨#[85,78,73,84]⟩⟩,
 ⟨4,⟨#[66,79,88]⟩,⟨#[66,79,88]⟩⟩,
 ⟨4,⟨#[80,79,83,84,66,79,88]⟩,⟨#[80,66]⟩⟩,
 ⟨4,⟨#[80,79,83,84,70,65,67,72]⟩,⟨#[80,70]⟩⟩,
 ⟨5,⟨#[83,65,73,78,84]⟩,⟨#[83,84]⟩⟩,
 ⟨5,⟨#[83,65,73,78,84,69]⟩,⟨#[83,84,69]⟩⟩,
 ⟨5,⟨#[77,79,85,78,84]⟩,⟨#[77,84]⟩⟩,
 ⟨5,⟨#[70,79,82,84]⟩,⟨#[70,84]⟩⟩,
 ⟨5,⟨#[68,79,67,84,79,82]⟩,⟨#[68,82]⟩⟩]
def tableCells : Array Value:=(table.flatMap rowCells).toArray
theorem table_len : table.length = 40:=rfl
theorem tableCells_size : tableCells.size = 120:=by kernel_rfl
theorem info205 : (Tryz.prog.info? 205).map (·.size) = some tableCells.size:=by kernel_rfl
theorem zero215 : Tryz.zeroCells205.size = tableCells.size:=by kernel_rfl
theorem one215 : tableCells.all (·.oneCell') = true:=by kernel_rfl
theorem rows_any (w : World) : Calls Tryz.prog 146 #[] w fun e w'=>e = .returned (.agg tableCells) /\ w' = w.alloc (.cells tableCells 205):=by
 go_enter Tryz.func146,Tryz.ntmps146
 go_upto_region 1 with fail
 apply wp_region_lit
 refine wpList_buildTo rfl 201 _ rfl (some 1) rfl #[.int .u8 1,.string ⟨#[78,79,82,84,72]⟩,.string ⟨#[78]⟩] (by kernel_rfl) ?_
 simp only [Act.put,sX,sZ,sS]
 refine wpList_buildTo rfl 201 _ rfl (some 2) rfl #[.int .u8 1,.string ⟨#[83,79,85,84,72]⟩,.string ⟨#[83]⟩] (by kernel_rfl) ?_
 simp only [Act.put,sX,sZ,sS]
 refine wpList_buildTo rfl 201 _ rfl (some 3) rfl #[.int .u8 1,.string ⟨#[69,65,83,84]⟩,.string ⟨#[69]⟩] (by kernel_rfl) ?_
 simp only [Act.put,sX,sZ,sS]
 refine wpList_buildTo rfl 201 _ rfl (some 4) rfl #[.int .u8 1,.string ⟨#[87,69,83,84]⟩,.string ⟨#[87]⟩] (by kernel_rfl) ?_
 simp only [Act.put,sX,sZ,sS]
 refine wpList_buildTo rfl 201 _ rfl (some 5) rfl #[.int .u8 1,.string ⟨#[78,79,82,84,72,69,65,83,84]⟩,.string ⟨#[78,69]⟩] (by kernel_rfl) ?_
 simp only [Act.put,sX,sZ,sS]
 refine wpList_buildTo rfl 201 _ rfl (some 6) rfl #[.int .u8 1,.string ⟨#[78,79,82,84,72,87,69,83,84]⟩,.string ⟨#[78,87]⟩] (by kernel_rfl) ?_
 simp only [Act.put,sX,sZ,sS]
 refine wpList_buildTo rfl 201 _ rfl (some 7) rfl #[.int .u8 1,.string ⟨#[83,79,85,84,72,69,65,83,84]⟩,.string ⟨#[83,69]⟩] (by kernel_rfl) ?_
 simp only [Act.put,sX,sZ,sS]
 refine wpList_buildTo rfl 201 _ rfl (some 8) rfl #[.int .u8 1,.string ⟨#[83,79,85,84,72,87,69,83,84]⟩,.string ⟨#[83,87]⟩] (by kernel_rfl) ?_
 simp only [Act.put,sX,sZ,sS]
 refine wpList_buildTo rfl 201 _ rfl (some 9) rfl #[.int .u8 2,.string ⟨#[83,84,82,69,69,84]⟩,.string ⟨#[83,84]⟩] (by kernel_rfl) ?_
 simp only [Act.put,sX,sZ,sS]
 refine wpList_buildTo rfl 201 _ rfl (some 10) rfl #[.int .u8 2,.string ⟨#[65,86,69,78,85,69]⟩,.string ⟨#[65,86,69]⟩] (by kernel_rfl) ?_
 simp only [Act.put,sX,sZ,sS]
 refine wpList_buildTo rfl 201 _ rfl (some 11) rfl #[.int .u8 2,.string ⟨#[65,86,69,78,85,69]⟩,.string ⟨#[65,86]⟩] (by kernel_rfl) ?_
 simp only [Act.put,sX,sZ,sS]
 refine wpList_buildTo rfl 201 _ rfl (some 12) rfl #[.int .u8 2,.string ⟨#[82,79,65,68]⟩,.string ⟨#[82,68]⟩] (by kernel_rfl) ?_
 simp only [Act.put,sX,sZ,sS]
 refine wpList_buildTo rfl 201 _ rfl (some 13) rfl #[.int .u8 2,.string ⟨#[68,82,73,86,69]⟩,.string ⟨#[68,82]⟩] (by kernel_rfl) ?_
 simp only [Act.put,sX,sZ,sS]
 refine wpList_buildTo rfl 201 _ rfl (some 14) rfl #[.int .u8 2,.string ⟨#[76,65,78,69]⟩,.string ⟨#[76,78]⟩] (by kernel_rfl) ?_
 simp only [Act.put,sX,sZ,sS]
 refine wpList_buildTo rfl 201 _ rfl (some 15) rfl #[.int .u8 2,.string ⟨#[67,79,85,82,84]⟩,.string ⟨#[67,84]⟩] (by kernel_rfl) ?_
 simp only [Act.put,sX,sZ,sS]
 refine wpList_buildTo rfl 201 _ rfl (some 16) rfl #[.int .u8 2,.string ⟨#[80,76,65,67,69]⟩,.string ⟨#[80,76]⟩] (by kernel_rfl) ?_
 simp only [Act.put,sX,sZ,sS]
 refine wpList_buildTo rfl 201 _ rfl (some 17) rfl #[.int .u8 2,.string ⟨#[83,81,85,65,82,69]⟩,.string ⟨#[83,81]⟩] (by kernel_rfl) ?_
 simp only [Act.put,sX,sZ,sS]
 refine wpList_buildTo rfl 201 _ rfl (some 18) rfl #[.int .u8 2,.string ⟨#[66,79,85,76,69,86,65,82,68]⟩,.string ⟨#[66,76,86,68]⟩] (by kernel_rfl) ?_
 simp only [Act.put,sX,sZ,sS]
 refine wpList_buildTo rfl 201 _ rfl (some 19) rfl #[.int .u8 2,.string ⟨#[84,69,82,82,65,67,69]⟩,.string ⟨#[84,69,82]⟩] (by kernel_rfl) ?_
 simp only [Act.put,sX,sZ,sS]
 refine wpList_buildTo rfl 201 _ rfl (some 20) rfl #[.int .u8 2,.string ⟨#[72,73,71,72,87,65,89]⟩,.string ⟨#[72,87,89]⟩] (by kernel_rfl) ?_
 simp only [Act.put,sX,sZ,sS]
 refine wpList_buildTo rfl 201 _ rfl (some 21) rfl #[.int .u8 2,.string ⟨#[67,82,69,83,67,69,78,84]⟩,.string ⟨#[67,82,69,83]⟩] (by kernel_rfl) ?_
 simp only [Act.put,sX,sZ,sS]
 refine wpList_buildTo rfl 201 _ rfl (some 22) rfl #[.int .u8 2,.string ⟨#[87,65,89]⟩,.string ⟨#[87,65,89]⟩] (by kernel_rfl) ?_
 simp only [Act.put,sX,sZ,sS]
 refine wpList_buildTo rfl 201 _ rfl (some 23) rfl #[.int .u8 2,.string ⟨#[83,84,82,65,83,83,69]⟩,.string ⟨#[83,84,82]⟩] (by kernel_rfl) ?_
 simp only [Act.put,sX,sZ,sS]
 refine wpList_buildTo rfl 201 _ rfl (some 24) rfl #[.int .u8 2,.string ⟨#[80,76,65,84,90]⟩,.string ⟨#[80,76]⟩] (by kernel_rfl) ?_
 simp only [Act.put,sX,sZ,sS]
 refine wpList_buildTo rfl 201 _ rfl (some 25) rfl #[.int .u8 2,.string ⟨#[87,69,71]⟩,.string ⟨#[87,69,71]⟩] (by kernel_rfl) ?_
 simp only [Act.put,sX,sZ,sS]
 refine wpList_buildTo rfl 201 _ rfl (some 26) rfl #[.int .u8 2,.string ⟨#[65,76,76,69,69]⟩,.string ⟨#[65,76]⟩] (by kernel_rfl) ?_
 simp only [Act.put,sX,sZ,sS]
 refine wpList_buildTo rfl 201 _ rfl (some 27) rfl #[.int .u8 3,.string ⟨#[65,80,65,82,84,77,69,78,84]⟩,.string ⟨#[65,80,84]⟩] (by kernel_rfl) ?_
 simp only [Act.put,sX,sZ,sS]
 refine wpList_buildTo rfl 201 _ rfl (some 28) rfl #[.int .u8 3,.string ⟨#[83,85,73,84,69]⟩,.string ⟨#[83,84,69]⟩] (by kernel_rfl) ?_
 simp only [Act.put,sX,sZ,sS]
 refine wpList_buildTo rfl 201 _ rfl (some 29) rfl #[.int .u8 3,.string ⟨#[70,76,79,79,82]⟩,.string ⟨#[70,76]⟩] (by kernel_rfl) ?_
 simp only [Act.put,sX,sZ,sS]
 refine wpList_buildTo rfl 201 _ rfl (some 30) rfl #[.int .u8 3,.string ⟨#[82,79,79,77]⟩,.string ⟨#[82,77]⟩] (by kernel_rfl) ?_
 simp only [Act.put,sX,sZ,sS]
 refine wpList_buildTo rfl 201 _ rfl (some 31) rfl #[.int .u8 3,.string ⟨#[70,76,65,84]⟩,.string ⟨#[70,76]⟩] (by kernel_rfl) ?_
 simp only [Act.put,sX,sZ,sS]
 refine wpList_buildTo rfl 201 _ rfl (some 32) rfl #[.int .u8 3,.string ⟨#[85,78,73,84]⟩,.string ⟨#[85,78,73,84]⟩] (by kernel_rfl) ?_
 simp only [Act.put,sX,sZ,sS]
 refine wpList_buildTo rfl 201 _ rfl (some 33) rfl #[.int .u8 4,.string ⟨#[66,79,88]⟩,.string ⟨#[66,79,88]⟩] (by kernel_rfl) ?_
 simp only [Act.put,sX,sZ,sS]
 refine wpList_buildTo rfl 201 _ rfl (some 34) rfl #[.int .u8 4,.string ⟨#[80,79,83,84,66,79,88]⟩,.string ⟨#[80,66]⟩] (by kernel_rfl) ?_
 simp only [Act.put,sX,sZ,sS]
 refine wpList_buildTo rfl 201 _ rfl (some 35) rfl #[.int .u8 4,.string ⟨#[80,79,83,84,70,65,67,72]⟩,.string ⟨#[80,70]⟩] (by kernel_rfl) ?_
 simp only [Act.put,sX,sZ,sS]
 refine wpList_buildTo rfl 201 _ rfl (some 36) rfl #[.int .u8 5,.string ⟨#[83,65,73,78,84]⟩,.string ⟨#[83,84]⟩] (by kernel_rfl) ?_
 simp only [Act.put,sX,sZ,sS]
 refine wpList_buildTo rfl 201 _ rfl (some 37) rfl #[.int .u8 5,.string ⟨#[83,65,73,78,84,69]⟩,.string ⟨#[83,84,69]⟩] (by kernel_rfl) ?_
 simp only [Act.put,sX,sZ,sS]
 refine wpList_buildTo rfl 201 _ rfl (some 38) rfl #[.int .u8 5,.string ⟨#[77,79,85,78,84]⟩,.string ⟨#[77,84]⟩] (by kernel_rfl) ?_
 simp only [Act.put,sX,sZ,sS]
 refine wpList_buildTo rfl 201 _ rfl (some 39) rfl #[.int .u8 5,.string ⟨#[70,79,82,84]⟩,.string ⟨#[70,84]⟩] (by kernel_rfl) ?_
 simp only [Act.put,sX,sZ,sS]
 refine wpList_buildTo rfl 201 _ rfl (some 40) rfl #[.int .u8 5,.string ⟨#[68,79,67,84,79,82]⟩,.string ⟨#[68,82]⟩] (by kernel_rfl) ?_
 simp only [Act.put,sX,sZ,sS]
 refine wpList_buildTo rfl 205 _ rfl (some 41) rfl tableCells (by kernel_rfl) ?_
 simp only [Act.put,sX,sZ,sS]
 refine wpList_store_rowTo rfl 205 _ _ rfl rfl w.heap.size tableCells rfl rfl 205 Tryz.zeroCells205 (heap_alloc_last _ _) info205 zero215 one215 ?_
 rw [World.setRow_alloc_new]
 apply wpList_nil
 go_wp2
 refine bodyPost_ret (results_cell_row Tryz.results146 _ _ _ _ _ (0,0) _ rfl (Blk.new _ _ _) Tryz.underlying205 rfl info205) rfl ⟨rfl,rfl⟩
end
section
open Go.RowKit
def Row.zero : Row:=⟨0,⟨#[]⟩,⟨#[]⟩⟩
theorem store_table (W : World) (g : Nat) (hg : g = W.heap.size) : Sem.run Tryz.prog (storeCells ⟨g,0,none⟩ tableCells.toList) (W.alloc (.cells Tryz.zeroCells205 205)) = .ok () (W.alloc (.cells tableCells 205)):=by
 subst hg
 exact run_storeCells_new W 205 Tryz.zeroCells205 tableCells info205 zero215 one215
theorem index_table : ∀ (k : Nat),k < 40 -> ∀ W : World,Sem.run Tryz.prog (Instr.index 205 (.agg tableCells) (.int .i64 (k : Int))) W =
  .ok (.agg #[.int .u8 (table.getD k Row.zero).kind,.string (table.getD k Row.zero).long,.string (table.getD k Row.zero).short]) W
 | 0,_,_=>by kernel_rfl
 | 1,_,_=>by kernel_rfl
 | 2,_,_=>by kernel_rfl
 | 3,_,_=>by kernel_rfl
 | 4,_,_=>by kernel_rfl
 | 5,_,_=>by kernel_rfl
 | 6,_,_=>by kernel_rfl
 | 7,_,_=>by kernel_rfl
 | 8,_,_=>by kernel_rfl
 | 9,_,_=>by kernel_rfl
 | 10,_,_=>by kernel_rfl
 | 11,_,_=>by kernel_rfl
 | 12,_,_=>by kernel_rfl
 | 13,_,_=>by kernel_rfl
 | 14,_,_=>by kernel_rfl
 | 15,_,_=>by kernel_rfl
 | 16,_,_=>by kernel_rfl
 | 17,_,_=>by kernel_rfl
 | 18,_,_=>by kernel_rfl
 | 19,_,_=>by kernel_rfl
 | 20,_,_=>by kernel_rfl
 | 21,_,_=>by kernel_rfl
 | 22,_,_=>by kernel_rfl
 | 23,_,_=>by kernel_rfl
 | 24,_,_=>by kernel_rfl
 | 25,_,_=>by kernel_rfl
 | 26,_,_=>by kernel_rfl
 | 27,_,_=>by kernel_rfl
 | 28,_,_=>by kernel_rfl
 | 29,_,_=>by kernel_rfl
 | 30,_,_=>by kernel_rfl
 | 31,_,_=>by kernel_rfl
 | 32,_,_=>by kernel_rfl
 | 33,_,_=>by kernel_rfl
 | 34,_,_=>by kernel_rfl
 | 35,_,_=>by kernel_rfl
 | 36,_,_=>by kernel_rfl
 | 37,_,_=>by kernel_rfl
 | 38,_,_=>by kernel_rfl
 | 39,_,_=>by kernel_rfl
 | n + 40,h,_=>absurd h (by omega)
theorem table_kind : ∀ r ∈ table,1 <= r.kind /\ r.kind <= 5:=by decide +kernel
theorem table_size : ∀ r ∈ table,r.long.size <= 20 /\ r.short.size <= 20:=by decide +kernel
def isOf (s : ByteArray) (r : Row) : Bool:=decide (r.long = s) || decide (r.short = s)
theorem shift_kind (k : Int) (h1 : 1 <= k) (h2 : k <= 5) : (2 : Int) ^ k.toNat % 256 = ((2 ^ k.toNat : Nat) : Int):=by
 obtain rfl | rfl | rfl | rfl | rfl : k = 1 \/ k = 2 \/ k = 3 \/ k = 4 \/ k = 5:=by omega
 all_goals decide
def stepK (s : ByteArray) (n : Nat) (r : Row) : Nat:=if isOf s r then n ||| 2 ^ r.kind.toNat else n
def kindsTo (s : ByteArray) (k : Nat) : Nat:=(table.take k).foldl (stepK s) 0
def kindsOf (s : ByteArray) : Nat:=table.foldl (stepK s) 0
theorem kindsTo_all (s : ByteArray) : kindsTo s 40 = kindsOf s:=rfl
theorem kindsTo_succ (s : ByteArray) (k : Nat) (h : k < 40) : kindsTo s (k + 1) = stepK s (kindsTo s k) (table.getD k Row.zero):=by
 have h' : k < table.length:=h
 rw [kindsTo,List.take_succ_eq_append_getElem h',List.foldl_append,getD_at _ _ _ h']
 rfl
theorem or_kind : ∀ n : Fin 64,∀ k : Fin 6,bits BinOp.or IntKind.u8 ((n.val : Nat) : Int) ((2 ^ k.val : Nat) : Int) = ((n.val ||| 2 ^ k.val : Nat) : Int):=by decide +kernel
theorem stepK_lt {s : ByteArray} {n : Nat} {r : Row} (hn : n < 64) (hr : r.kind <= 5) : stepK s n r < 64:=by
 unfold stepK
 split
 ·exact Nat.or_lt_two_pow (n:=6) hn (by
   have : 2 ^ r.kind.toNat <= 2 ^ 5:=Nat.pow_le_pow_right (by omega) (by omega)
   omega)
 ·exact hn
theorem kinds_any (s : ByteArray) (w : World) : Calls Tryz.prog 126 #[.string s] w fun e w'=>e = .returned (.int .u8 (kindsOf s : Int)) /\ Below w.heap.size w w':=by
 have hst:=store_table (w.alloc (.cells tableCells 205)) (w.heap.size + 1) (by simp)
 have hsz:=tableCells_size
 have hbW : Below w.heap.size w ((w.alloc (.cells tableCells 205)).alloc (.cells tableCells 205)):=((Below.refl _ _).alloc (lQ _) _).alloc (by simp) _
 go_enter Tryz.func126,Tryz.ntmps126
 go_wp2_with fail
 refine (rows_any _).mono ?_
 rintro e w1 ⟨rfl,rfl⟩
 go_upto_region 2 with fail
 clear hst
 apply wp_region_lit
 refine wpList_load_row rfl 205 (.tmp 4) rfl (w.heap.size + 1) rfl 205 tableCells (0,0) _ (Blk.new_at _ _ _ _ (by simp)) Tryz.underlying205 rfl info205 ?_
 simp only [Act.put,sX,sZ,sS]
 generalize (w.alloc (.cells tableCells 205)).alloc (.cells tableCells 205) = W at *
 go_wp2
 go_loopw [3,9] (fun kv iv wr=>∃ (k n : Nat),k <= 40 /\ iv = .int .i64 k /\ kv = .int .u8 n /\ n < 64 /\ Hid (kindsTo s k = n) /\ Below w.heap.size w wr)
  (fun _ iv _=>40 - (intOf iv).toNat)
 case atStart=>exact ⟨0,0,by omega,rfl,rfl,by omega,rfl,hbW⟩
 case round=>
  obtain ⟨k,n,hk,rfl,rfl,hn,hkn,hbw⟩:=hrel
  rename World=>wr
  have n0 : (0 : Int) <= (k : Int):=by omega
  by_cases hlt : k < 40
  ·have n1 : (k : Int) < 40:=by omega
   have hix:=index_table k hlt
   have hkb:=table_kind (table.getD k Row.zero) (by rw [getD_at _ _ _ (show k < table.length from hlt)]; exact List.getElem_mem _)
   have hsuc:=Hd (kindsTo_succ s k hlt)
   rw [hkn.out] at hsuc
   generalize table.getD k Row.zero = r at hix hkb hsuc
   have hlt64:=Hd (stepK_lt (s:=s) hn hkb.2)
   obtain ⟨rk,rl,rs⟩:=r
   obtain ⟨hk1,hk2⟩:=hkb
   simp only at hix hk1 hk2
   have hor:=or_kind ⟨n,hn⟩ ⟨rk.toNat,by omega⟩
   have hsh:=shift_kind rk hk1 hk2
   have hp : isOf s ⟨rk,rl,rs⟩ = true -> stepK s n ⟨rk,rl,rs⟩ = n ||| 2 ^ rk.toNat:=fun h=>by unfold stepK; rw [if_pos h]
   have hp':=Hd hp
   clear hp
   simp only at hor
   generalize 2 ^ rk.toNat = q at hor hsh hp'
   have hend : Below w.heap.size w (wr.alloc (.cells #[.int .u8 rk,.string rl,.string rs] 201)):=hbw.alloc hbw.size _
   by_cases hw : rl = s
   ·subst hw
    have b1 : (rl.toList == rl.toList) = true:=by simp
    have hst : Hid (stepK rl n ⟨rk,rl,rs⟩ = n ||| q):=Hd (hp'.out (by simp [isOf]))
    rw [hst.out] at hsuc hlt64
    go_wp2
    go_roundw
    case rel=>exact ⟨k + 1,n ||| q,by omega,by go_num,rfl,hlt64.out,hsuc,hend⟩
    case measure=>simp [intOf]; omega
   ·have b1:=tl_ne hw
    by_cases hw2 : rs = s
    ·subst hw2
     have b2 : (rs.toList == rs.toList) = true:=by simp
     have hst : Hid (stepK rs n ⟨rk,rl,rs⟩ = n ||| q):=Hd (hp'.out (by simp [isOf]))
     rw [hst.out] at hsuc hlt64
     clear hw
     go_wp2
     go_roundw
     case rel=>exact ⟨k + 1,n ||| q,by omega,by go_num,rfl,hlt64.out,hsuc,hend⟩
     case measure=>simp [intOf]; omega
    ·have b2:=tl_ne hw2
     have hst : Hid (stepK s n ⟨rk,rl,rs⟩ = n):=Hd (by unfold stepK; rw [if_neg (by simp [isOf,hw,hw2])])
     rw [hst.out] at hsuc
     clear hw hw2
     go_wp2
     go_roundw
     case rel=>exact ⟨k + 1,n,by omega,by go_num,rfl,hn,hsuc,hend⟩
     case measure=>simp [intOf]; omega
  ·obtain rfl : k = 40:=by omega
   have hfin:=Hd (show (n : Int) = (kindsOf s : Int) from by rw [<- hkn.out,kindsTo_all])
   go_wp2
   go_ret
   exact ⟨ret_int hfin.out,hbw⟩
end
section
open Go.RowKit Go.Maps
structure Keeps (P : Nat -> Prop) (w w' : World) : Prop where
 size : w.heap.size <= w'.heap.size
 block : ∀ b,b < w.heap.size -> P b -> w'.heap[b]? = w.heap[b]?
theorem Keeps.of_below {w w' : World} (h : Below w.heap.size w w') (P : Nat -> Prop) : Keeps P w w':=⟨h.size,fun b hb _=>h.block b hb⟩
theorem Keeps.of_grown {w w' : World} {row : Option Nat} (h : w.grownBy w' row) {P : Nat -> Prop} (hP : ∀ b,P b -> some b ≠ row) : Keeps P w w':=⟨h.size,fun b hb hp=>h.block b hb (hP b hp)⟩
theorem Keeps.cell {P : Nat -> Prop} {w w' : World} (h : Keeps P w w') {b o : Nat} (hb : b < w.heap.size) (hp : P b) : w'.cell? ⟨b,o,none⟩ = w.cell? ⟨b,o,none⟩:=World.cell?_of_block (h.block b hb hp)
theorem Keeps.set_ {P : Nat -> Prop} (w : World) (p : Addr) (u : Value) (hp : ¬ P p.block) : Keeps P w (w.setCell p u):=⟨by simp [World.setCell],fun b _ hb=>Below.heap_setCell w p u b (fun e=>hp (e ▸ hb))⟩
theorem Keeps.trans {P : Nat -> Prop} {a b c : World} (h : Keeps P a b) (k : Keeps P b c) : Keeps P a c:=⟨Nat.le_trans h.size k.size,fun i hi hp=>(k.block i (Nat.lt_of_lt_of_le hi h.size) hp).trans (h.block i hi hp)⟩
def SlP (P : Nat -> Prop) (w : World) (v : Value) (n : Nat) (R : Nat -> Nat -> Nat -> Prop) : Prop:=
 ∃ A c,v = .slice A n c /\ n <= c /\ c <= maxLen /\ (0 < n -> ∃ b off,A = some ⟨b,off,none⟩ /\ b < w.heap.size /\ P b /\ ∀ i,i < n -> R b off i)
theorem SlP.map {P Q : Nat -> Prop} {w w' : World} {v : Value} {n : Nat} {R R' : Nat -> Nat -> Nat -> Prop} (h : SlP P w v n R) (hs : w.heap.size <= w'.heap.size) (hPQ : ∀ b,b < w.heap.size -> P b -> Q b)
  (hR : ∀ b off i,b < w.heap.size -> P b -> i < n -> R b off i -> R' b off i) : SlP Q w' v n R':=by
 obtain ⟨A,c,hv,hn,hc,hA⟩:=h
 refine ⟨A,c,hv,hn,hc,fun h0=>?_⟩
 obtain ⟨b,off,e,hb,hp,hi⟩:=hA h0
 exact ⟨b,off,e,Nat.lt_of_lt_of_le hb hs,hPQ b hb hp,fun i hin=>hR b off i hb hp hin (hi i hin)⟩
theorem SlP.plain {P : Nat -> Prop} {w : World} {v : Value} {n : Nat} {R R' : Nat -> Nat -> Nat -> Prop} (h : SlP P w v n R) (hR : ∀ b off i,b < w.heap.size -> P b -> i < n -> R b off i -> R' b off i) : Sl w v n R':=by
 obtain ⟨A,c,hv,hn,hc,hA⟩:=h
 refine ⟨A,c,hv,hn,hc,fun h0=>?_⟩
 obtain ⟨b,off,e,hb,hp,hi⟩:=hA h0
 exact ⟨b,off,e,hb,fun i hin=>hR b off i hb hp hin (hi i hin)⟩
theorem flat_get {α β : Type} (f : α -> List β) (k : Nat) (hf : ∀ a,(f a).length = k) : ∀ (l : List α) (i j : Nat) (hi : i < l.length),j < k -> (l.flatMap f)[i * k + j]? = (f l[i])[j]?
 | [],i,_,hi,_=>by simp at hi
 | a :: l,0,j,_,hj=>by
  simp only [List.flatMap_cons,Nat.zero_mul,Nat.zero_add,gZ]
  rw [List.getElem?_append_left (by rw [hf]; exact hj)]
 | a :: l,i + 1,j,hi,hj=>by
  simp only [List.flatMap_cons,gQ]
  rw [List.getElem?_append_right (by rw [hf,Nat.succ_mul]; omega),hf,show (i + 1) * k + j - k = i * k + j from by rw [Nat.succ_mul]; omega]
  exact flat_get f k hf l i j (by simpa using hi) hj
structure Inner {α : Type} (I : (Nat -> Prop) -> World -> α -> Prop) : Prop where
 keep : ∀ {P Q : Nat -> Prop} {w w' : World} {a : α},I P w a -> Keeps P w w' -> (∀ b,b < w.heap.size -> P b -> Q b) -> I Q w' a
def OwnL {α : Type} (E : TypeId) (k : Nat) (cells : α -> List Value) (I : (Nat -> Prop) -> World -> α -> Prop) (base : Nat) (w : World) (v : Value) (ps : List α) : Prop:=
 w.ownsRow base E k v ps.length (ps.flatMap cells) /\ ∀ p ∈ ps,I (fun b=>base <= b /\ some b ≠ v.ownBlock) w p
section
variable {α : Type} {E : TypeId} {k : Nat} {cells : α -> List Value} {I : (Nat -> Prop) -> World -> α -> Prop} {base : Nat} {w w' : World} {v v' : Value} {ps : List α}
theorem OwnL.nil_ : OwnL E k cells I base w (.slice none 0 0) []:=⟨⟨by simp,.inl ⟨rfl,rfl⟩⟩,fun _ hp=>by cases hp⟩
theorem OwnL.keep (hI : Inner I) (h : OwnL E k cells I base w v ps) (hk : Keeps (fun b=>base <= b) w w') : OwnL E k cells I base w' v ps:=by
 refine ⟨⟨h.1.1,?_⟩,fun p hp=>hI.keep (h.2 p hp) ⟨hk.size,fun b hb hp=>hk.block b hb hp.1⟩ fun _ _ h=>h⟩
 rcases h.1.2 with h0 | ⟨g,cap,cur,e,hb,hg,h1⟩
 ·exact .inl h0
 ·refine .inr ⟨g,cap,cur,e,hb,(hk.block g ?_ hb).trans hg,h1⟩
  exact (Array.getElem?_eq_some_iff.1 hg).1
theorem OwnL.append (hI : Inner I) (h : OwnL E k cells I base w v ps) {a : α} (ha : I (fun b=>base <= b /\ some b ≠ v.ownBlock) w a)
  (hown : w'.ownsRow base E k v' (ps.length + 1) (ps.flatMap cells ++ cells a)) (hg : w.grownBy w' v.ownBlock) (hat : v'.ownBlock = v.ownBlock \/ ∃ H,v'.ownBlock = some H /\ w.heap.size <= H) :
  OwnL E k cells I base w' v' (ps ++ [a]):=by
 have hPQ : ∀ b,b < w.heap.size -> (base <= b /\ some b ≠ v.ownBlock) -> (base <= b /\ some b ≠ v'.ownBlock):=fun b hb hp=>⟨hp.1,by
  rcases hat with e | ⟨H,e,hH⟩
  ·rw [e]; exact hp.2
  ·rw [e]; intro e2; injection e2 with e2; omega⟩
 have hK : Keeps (fun b=>base <= b /\ some b ≠ v.ownBlock) w w':=Keeps.of_grown hg fun b hb=>hb.2
 refine ⟨by simpa using hown,fun p hp=>?_⟩
 rcases List.mem_append.1 hp with hp | hp
 ·exact hI.keep (h.2 p hp) hK hPQ
 ·rw [mS.1 hp]
  exact hI.keep ha hK hPQ
theorem OwnL.sl (h : OwnL E k cells I base w v ps) (hf : ∀ a,(cells a).length = k) :
  SlP (fun b=>base <= b) w v ps.length fun b off i=>off = 0 /\ some b = v.ownBlock /\ ∀ (hi : i < ps.length) (j : Nat),j < k -> w.cell? ⟨b,off + i * k + j,none⟩ = (cells ps[i])[j]?:=by
 rcases h.1.2 with ⟨rfl,h0⟩ | ⟨g,cap,cur,rfl,hb,hg,hnc,hcm,hcs,_⟩
 ·exact ⟨none,0,by rw [h0],by omega,Nat.zero_le _,fun h=>absurd h (by omega)⟩
 ·refine ⟨_,_,rfl,hnc,hcm,fun _=>⟨g,0,rfl,(Array.getElem?_eq_some_iff.1 hg).1,hb,fun i hi=>⟨rfl,rfl,fun hi j hj=>?_⟩⟩⟩
  have hlt : i * k + j < ps.length * k:=by
   have : (i + 1) * k <= ps.length * k:=Nat.mul_le_mul_right k hi
   rw [Nat.succ_mul] at this
   omega
  rw [Nat.zero_add,h.1.cellAt (i * k + j) hlt,flat_get cells k hf ps i j hi hj]
theorem OwnL.block_lt (h : OwnL E k cells I base w v ps) {g : Nat} (hg : v.ownBlock = some g) : base <= g /\ g < w.heap.size:=h.1.lt g hg
end
def noInner {α : Type} : (Nat -> Prop) -> World -> α -> Prop:=fun _ _ _=>True
theorem noInner_inner {α : Type} : Inner (noInner (α:=α)):=⟨fun h _ _=>h⟩
theorem getD_of {α : Type} (l : List α) (d : α) (i : Nat) (h : i < l.length) : l.getD i d = l[i]:=by rw [List.getD_eq_getElem?_getD,List.getElem?_eq_getElem h]; rfl
section
variable {α : Type} {E : TypeId} {k : Nat} {cells : α -> List Value} {I : (Nat -> Prop) -> World -> α -> Prop}
theorem field_append (hI : Inner I) {B G i Bd : Nat} {T : TypeId} {cs : Array Value} {W2 wr wA w1 : World} {cv : Value} {g n cap : Nat} {ps : List α} {a : α}
  (hbi : Below Bd W2 wr) (hbk : Blk wr G T cs) (hown : OwnL E k cells I B wr cv ps) (hA : Below wr.heap.size wr wA) (hGB : G < B) (hBd : Bd <= G)
  (ha : I (fun b=>B <= b /\ some b ≠ cv.ownBlock) wA a)
  (hown1 : w1.ownsRow B E k (.slice (some ⟨g,0,none⟩) n cap) n (ps.flatMap cells ++ cells a)) (hn : n = ps.length + 1)
  (hgr : wA.grownBy w1 cv.ownBlock) (hat : cv.ownBlock = some g \/ wA.heap.size <= g) :
  Below Bd W2 (w1.setCell ⟨G,i,none⟩ (.slice (some ⟨g,0,none⟩) n cap)) /\ Blk (w1.setCell ⟨G,i,none⟩ (.slice (some ⟨g,0,none⟩) n cap)) G T (cs.setIfInBounds i (.slice (some ⟨g,0,none⟩) n cap)) /\
   OwnL E k cells I B (w1.setCell ⟨G,i,none⟩ (.slice (some ⟨g,0,none⟩) n cap)) (.slice (some ⟨g,0,none⟩) n cap) (ps ++ [a]):=by
 subst hn
 have hcv : ∀ h,cv.ownBlock = some h -> B <= h:=fun h e=>(hown.1.lt h e).1
 have hlt : G < wr.heap.size:=hbk.lt
 have hownA : OwnL E k cells I B wA cv ps:=hown.keep hI (Keeps.of_below hA _)
 have happ:=hownA.append hI ha hown1 hgr (by
  rcases hat with e | e
  ·exact .inl (by rw [e]; rfl)
  ·exact .inr ⟨g,rfl,e⟩)
 have hbkA:=hbk.below hA hlt
 have hbk1:=hbkA.grown hgr (fun e=>by have:=hcv G e.symm; omega)
 have hs:=hA.size
 refine ⟨?_,hbk1.set_ i _,happ.keep hI (Keeps.set_ _ _ _ (by simp; omega))⟩
 exact ((hbi.trans (hA.mono (by omega))).grown hgr (by omega) (fun h e=>by have:=hcv h e; omega)).setCell hBd _
theorem slot_append (hI : Inner I) {B Bd : Nat} {W2 wr wA w1 : World} {cv : Value} {g n cap : Nat} {ps : List α} {a : α}
  (hbi : Below Bd W2 wr) (hown : OwnL E k cells I B wr cv ps) (hA : Below wr.heap.size wr wA) (hBd : Bd <= B) (hBs : Bd <= wr.heap.size)
  (ha : I (fun b=>B <= b /\ some b ≠ cv.ownBlock) wA a)
  (hown1 : w1.ownsRow B E k (.slice (some ⟨g,0,none⟩) n cap) n (ps.flatMap cells ++ cells a)) (hn : n = ps.length + 1)
  (hgr : wA.grownBy w1 cv.ownBlock) (hat : cv.ownBlock = some g \/ wA.heap.size <= g) :
  Below Bd W2 w1 /\ OwnL E k cells I B w1 (.slice (some ⟨g,0,none⟩) n cap) (ps ++ [a]):=by
 subst hn
 have hcv : ∀ h,cv.ownBlock = some h -> B <= h:=fun h e=>(hown.1.lt h e).1
 have hownA : OwnL E k cells I B wA cv ps:=hown.keep hI (Keeps.of_below hA _)
 have happ:=hownA.append hI ha hown1 hgr (by
  rcases hat with e | e
  ·exact .inl (by rw [e]; rfl)
  ·exact .inr ⟨g,rfl,e⟩)
 have hs:=hA.size
 exact ⟨(hbi.trans (hA.mono (by omega))).grown hgr (by omega) (fun h e=>by have:=hcv h e; omega),happ⟩
theorem OwnL.far {B : Nat} {w w' : World} {v : Value} {ps : List α} (hI : ∀ P Q w w' a,I P w a -> I Q w' a) (h : OwnL E k cells I B w v ps) (hw : ∀ g,v.ownBlock = some g -> w'.heap[g]? = w.heap[g]?) : OwnL E k cells I B w' v ps:=by
 refine ⟨⟨h.1.1,?_⟩,fun p hp=>hI _ _ _ _ _ (h.2 p hp)⟩
 rcases h.1.2 with h0 | ⟨g,cap,cur,e,hb,hg,h1⟩
 ·exact .inl h0
 ·exact .inr ⟨g,cap,cur,e,hb,(hw g (by rw [e]; rfl)).trans hg,h1⟩
end
theorem drewN_below (w : World) (n : Nat) : Below w.heap.size w (w.drewN n):=⟨rfl,rfl,rfl,lQ _,fun _ _=>rfl⟩
theorem OwnL.form_ {α : Type} {E : TypeId} {k : Nat} {cells : α -> List Value} {I : (Nat -> Prop) -> World -> α -> Prop} {B : Nat} {w : World} {v : Value} {ps : List α} (h : OwnL E k cells I B w v ps) : ∃ A c,v = .slice A ps.length c:=by
 rcases h.1.2 with ⟨e,h0⟩ | ⟨g,cap,cur,e,_⟩
 ·exact ⟨none,0,by rw [e,h0]⟩
 ·exact ⟨_,_,e⟩
def strCells (s : ByteArray) : List Value:=[.string s]
def strIn (_ : Nat -> Prop) (_ : World) (s : ByteArray) : Prop:=s.size <= maxLen
theorem strIn_inner : Inner strIn:=⟨fun h _ _=>h⟩
abbrev OwnStrs:=OwnL 9 1 strCells strIn
theorem OwnStrs.texts {base : Nat} {w : World} {v : Value} {ss : List ByteArray} (h : OwnStrs base w v ss) : IsTexts w v ss:=by
 have hsl:=OwnL.sl h (fun _=>rfl)
 exact SlP.plain hsl fun b off i _ _ hi hr=>by
  have h1:=hr.2.2 hi 0 (by omega)
  have h2:=h.2 ss[i] (List.getElem_mem hi)
  rw [getD_of ss ByteArray.empty i hi]
  exact ⟨by simpa [strCells] using h1,h2⟩
end
end Go.Proofs.YteclineblddpbaaGreatDoorR
