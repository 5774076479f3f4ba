import Derived.Test.YteclineblddpbaaGreatDoorRC01
set_option linter.all false
set_option maxRecDepth 100000
set_option maxHeartbeats 0
namespace Go.Proofs.YteclineblddpbaaGreatDoorR
section
open Go.RowKit
def keepL (kd : Int) (s : ByteArray) (r : Row) : Bool:=(decide (kd = 0) || decide (r.kind = kd)) && isOf s r
def keepS (kd : Int) (s : ByteArray) (r : Row) : Bool:=(decide (kd = 0) || decide (r.kind = kd)) && decide (r.long = s)
theorem keepL_any (kd : Int) (s : ByteArray) (g1 g2 : Nat) (r : Row) (w : World) (h1 : w.cell? ⟨g1,0,none⟩ = some (.int .u8 kd)) (h2 : w.cell? ⟨g2,0,none⟩ = some (.string s)) (l1 : g1 < w.heap.size) (l2 : g2 < w.heap.size) :
  Calls Tryz.prog 144 #[.agg #[.int .u8 r.kind,.string r.long,.string r.short],.pointer (some ⟨g1,0,none⟩),.pointer (some ⟨g2,0,none⟩)] w fun e w'=>e = .returned (.bool (keepL kd s r)) /\ Below w.heap.size w w':=by
 obtain ⟨rk,rl,rs⟩:=r
 have hend : Below w.heap.size w (w.alloc (.cells #[.int .u8 rk,.string rl,.string rs] 201)):=(Below.refl _ _).alloc (lQ _) _
 have hfin:=Hd (show keepL kd s ⟨rk,rl,rs⟩ = keepL kd s ⟨rk,rl,rs⟩ from rfl)
 by_cases q : kd = 0 \/ rk = kd
 case neg=>
  have q1 : (kd == 0) = false:=by simp; omega
  have q2 : (rk == kd) = false:=by simp; omega
  have hf:=Hd (show keepL kd s ⟨rk,rl,rs⟩ = false from by unfold keepL; simp; omega)
  clear q
  go_enter Tryz.func144,Tryz.ntmps144
  go_wp2
  go_ret
  exact ⟨ret_bool hf.out.symm,hend⟩
 case pos=>
 have hk : (decide (kd = 0) || decide (rk = kd)) = true:=by simpa using q
 by_cases e1 : rl = s
 ·have b1 : (rl.toList == s.toList) = true:=by rw [e1]; simp
  have hf:=Hd (show keepL kd s ⟨rk,rl,rs⟩ = true from by unfold keepL; rw [hk]; simp [isOf,e1])
  clear e1 hk hfin
  by_cases q0 : kd = 0
  ·subst q0
   go_enter Tryz.func144,Tryz.ntmps144
   go_wp2
   go_ret
   exact ⟨ret_bool hf.out.symm,hend⟩
  ·have q1 : (kd == 0) = false:=by simpa using q0
   have q2 : (rk == kd) = true:=by simp; omega
   clear q0
   go_enter Tryz.func144,Tryz.ntmps144
   go_wp2
   go_ret
   exact ⟨ret_bool hf.out.symm,hend⟩
 ·have b1:=tl_ne e1
  by_cases e2 : rs = s
  ·have b2 : (rs.toList == s.toList) = true:=by rw [e2]; simp
   have hf:=Hd (show keepL kd s ⟨rk,rl,rs⟩ = true from by unfold keepL; rw [hk]; simp [isOf,e2])
   clear e1 e2 hk hfin
   by_cases q0 : kd = 0
   ·subst q0
    go_enter Tryz.func144,Tryz.ntmps144
    go_wp2
    go_ret
    exact ⟨ret_bool hf.out.symm,hend⟩
   ·have q1 : (kd == 0) = false:=by simpa using q0
    have q2 : (rk == kd) = true:=by simp; omega
    clear q0
    go_enter Tryz.func144,Tryz.ntmps144
    go_wp2
    go_ret
    exact ⟨ret_bool hf.out.symm,hend⟩
  ·have b2:=tl_ne e2
   have hf:=Hd (show keepL kd s ⟨rk,rl,rs⟩ = false from by unfold keepL; rw [hk]; simp [isOf,e1,e2])
   clear e1 e2 hk hfin
   by_cases q0 : kd = 0
   ·subst q0
    go_enter Tryz.func144,Tryz.ntmps144
    go_wp2
    go_ret
    exact ⟨ret_bool hf.out.symm,hend⟩
   ·have q1 : (kd == 0) = false:=by simpa using q0
    have q2 : (rk == kd) = true:=by simp; omega
    clear q0
    go_enter Tryz.func144,Tryz.ntmps144
    go_wp2
    go_ret
    exact ⟨ret_bool hf.out.symm,hend⟩
theorem keepS_any (kd : Int) (s : ByteArray) (g1 g2 : Nat) (r : Row) (w : World) (h1 : w.cell? ⟨g1,0,none⟩ = some (.int .u8 kd)) (h2 : w.cell? ⟨g2,0,none⟩ = some (.string s)) (l1 : g1 < w.heap.size) (l2 : g2 < w.heap.size) :
  Calls Tryz.prog 174 #[.agg #[.int .u8 r.kind,.string r.long,.string r.short],.pointer (some ⟨g1,0,none⟩),.pointer (some ⟨g2,0,none⟩)] w fun e w'=>e = .returned (.bool (keepS kd s r)) /\ Below w.heap.size w w':=by
 obtain ⟨rk,rl,rs⟩:=r
 have hend : Below w.heap.size w (w.alloc (.cells #[.int .u8 rk,.string rl,.string rs] 201)):=(Below.refl _ _).alloc (lQ _) _
 have hfin:=Hd (show keepS kd s ⟨rk,rl,rs⟩ = keepS kd s ⟨rk,rl,rs⟩ from rfl)
 by_cases q : kd = 0 \/ rk = kd
 case neg=>
  have q1 : (kd == 0) = false:=by simp; omega
  have q2 : (rk == kd) = false:=by simp; omega
  have hf:=Hd (show keepS kd s ⟨rk,rl,rs⟩ = false from by unfold keepS; simp; omega)
  clear q
  go_enter Tryz.func174,Tryz.ntmps174
  go_wp2
  go_ret
  exact ⟨ret_bool hf.out.symm,hend⟩
 case pos=>
 have hk : (decide (kd = 0) || decide (rk = kd)) = true:=by simpa using q
 by_cases e1 : rl = s
 ·have b1 : (rl.toList == s.toList) = true:=by rw [e1]; simp
  have hf:=Hd (show keepS kd s ⟨rk,rl,rs⟩ = true from by unfold keepS; rw [hk]; simp [e1])
  clear e1 hk hfin
  by_cases q0 : kd = 0
  ·subst q0
   go_enter Tryz.func174,Tryz.ntmps174
   go_wp2
   go_ret
   exact ⟨ret_bool hf.out.symm,hend⟩
  ·have q1 : (kd == 0) = false:=by simpa using q0
   have q2 : (rk == kd) = true:=by simp; omega
   clear q0
   go_enter Tryz.func174,Tryz.ntmps174
   go_wp2
   go_ret
   exact ⟨ret_bool hf.out.symm,hend⟩
 ·have b1:=tl_ne e1
  have hf:=Hd (show keepS kd s ⟨rk,rl,rs⟩ = false from by unfold keepS; rw [hk]; simp [e1])
  clear e1 hk hfin
  by_cases q0 : kd = 0
  ·subst q0
   go_enter Tryz.func174,Tryz.ntmps174
   go_wp2
   go_ret
   exact ⟨ret_bool hf.out.symm,hend⟩
  ·have q1 : (kd == 0) = false:=by simpa using q0
   have q2 : (rk == kd) = true:=by simp; omega
   clear q0
   go_enter Tryz.func174,Tryz.ntmps174
   go_wp2
   go_ret
   exact ⟨ret_bool hf.out.symm,hend⟩
def rowVal (r : Row) : Value:=.agg #[.int .u8 r.kind,.string r.long,.string r.short]
def firstOf (keep : Row -> Bool) (l : List Row) : Row:=(l.find? keep).getD Row.zero
theorem firstOf_hit {keep : Row -> Bool} {l : List Row} {k : Nat} (h : k < l.length) (hno : ∀ i,i < k -> keep (l.getD i Row.zero) = false) (hk : keep (l.getD k Row.zero) = true) : firstOf keep l = l.getD k Row.zero:=by
 unfold firstOf
 rw [show l.find? keep = some (l.getD k Row.zero) from ?_]
 ·rfl
 ·rw [getD_at l _ k h] at hk ⊢
  refine List.find?_eq_some_iff_getElem.2 ⟨hk,k,h,rfl,fun j hj=>?_⟩
  have:=hno j hj
  rw [getD_at l _ j (by omega)] at this
  simp [this]
theorem firstOf_none {keep : Row -> Bool} {l : List Row} (hno : ∀ i,i < l.length -> keep (l.getD i Row.zero) = false) : firstOf keep l = Row.zero:=by
 unfold firstOf
 rw [List.find?_eq_none.2 fun r hr=>?_]
 ·rfl
 ·obtain ⟨i,hi,rfl⟩:=List.getElem_of_mem hr
  have:=hno i hi
  rw [getD_at l _ i hi] at this
  simp [this]
theorem size213 : (Tryz.prog.info? 201).map (·.size) = some 3:=by kernel_rfl
theorem first_any (kd : Int) (s : ByteArray) (g1 g2 : Nat) (w : World) (h1 : w.cell? ⟨g1,0,none⟩ = some (.int .u8 kd)) (h2 : w.cell? ⟨g2,0,none⟩ = some (.string s)) (l1 : g1 < w.heap.size) (l2 : g2 < w.heap.size) :
  Calls Tryz.prog 173 #[.agg tableCells,.func (.func 174) #[] #[.pointer (some ⟨g1,0,none⟩),.pointer (some ⟨g2,0,none⟩)]] w fun e w'=>e = .returned (rowVal (firstOf (keepS kd s) table)) /\ Below w.heap.size w w':=by
 have hsz:=tableCells_size
 have hbW : Below w.heap.size w ((w.alloc (.cells tableCells 205)).alloc (.cells #[.int .u8 0,.string ⟨#[]⟩,.string ⟨#[]⟩] 201)):=((Below.refl _ _).alloc (lQ _) _).alloc (by simp) _
 have hb4 : Blk ((w.alloc (.cells tableCells 205)).alloc (.cells #[.int .u8 0,.string ⟨#[]⟩,.string ⟨#[]⟩] 201)) (w.heap.size + 1) 201 #[.int .u8 0,.string ⟨#[]⟩,.string ⟨#[]⟩]:=Blk.new_at _ _ _ _ (by simp)
 have hb2 : Blk ((w.alloc (.cells tableCells 205)).alloc (.cells #[.int .u8 0,.string ⟨#[]⟩,.string ⟨#[]⟩] 201)) w.heap.size 205 tableCells:=(Blk.new _ _ _).alloc _
 go_enter Tryz.func173,Tryz.ntmps173
 go_upto_region 1 with fail
 apply wp_region_lit
 refine wpList_load_row rfl 205 (.tmp 2) rfl w.heap.size rfl 205 tableCells (0,0) _ hb2 Tryz.underlying205 rfl info205 ?_
 simp only [Act.put,sX,sZ,sS]
 generalize (w.alloc (.cells tableCells 205)).alloc (.cells #[.int .u8 0,.string ⟨#[]⟩,.string ⟨#[]⟩] 201) = W at *
 go_wp2
 go_loopw [9] (fun iv wr=>∃ (k : Nat),k <= 40 /\ iv = .int .i64 k /\ Below w.heap.size w wr /\ Hid (Blk wr (w.heap.size + 1) 201 #[.int .u8 0,.string ⟨#[]⟩,.string ⟨#[]⟩]) /\ Hid (∀ i,i < k -> keepS kd s (table.getD i Row.zero) = false))
  (fun iv _=>40 - (intOf iv).toNat)
 case atStart=>exact ⟨0,by omega,rfl,hbW,hb4,fun _ h=>absurd h (by omega)⟩
 case round=>
  obtain ⟨k,hk,rfl,hbw,hk4,hno⟩:=hrel
  rename World=>wr
  have n0 : (0 : Int) <= (k : Int):=by omega
  have hl4:=hk4.out.lt
  by_cases hlt : k < 40
  ·have n1 : (k : Int) < 40:=by omega
   have hix:=index_table k hlt
   have hhit:=Hd (show keepS kd s (table.getD k Row.zero) = true -> firstOf (keepS kd s) table = table.getD k Row.zero from fun h=>firstOf_hit (show k < table.length from hlt) hno.out h)
   have hstep:=Hd (show keepS kd s (table.getD k Row.zero) = false -> ∀ i,i < k + 1 -> keepS kd s (table.getD i Row.zero) = false from fun h i hi=>by
    rcases Nat.lt_or_ge i k with h1 | h1
    ·exact hno.out i h1
    ·rw [show i = k from by omega]; exact h)
   generalize table.getD k Row.zero = r at hix hhit hstep
   have hup : Below wr.heap.size wr (wr.alloc (.cells #[.int .u8 r.kind,.string r.long,.string r.short] 201)):=(Below.refl _ _).alloc (lQ _) _
   have c1:=((hbw.trans (hup.mono hbw.size)).cell (p:=⟨g1,0,none⟩) l1).trans h1
   have c2:=((hbw.trans (hup.mono hbw.size)).cell (p:=⟨g2,0,none⟩) l2).trans h2
   have hcon:=Hd (keepS_any kd s g1 g2 r _ c1 c2 (by have:=hbw.size; simp; omega) (by have:=hbw.size; simp; omega))
   have hj4:=Hd (hk4.out.alloc (.cells #[.int .u8 r.kind,.string r.long,.string r.short] 201))
   have hj6:=Hd (Blk.new wr 201 #[.int .u8 r.kind,.string r.long,.string r.short])
   have hend:=hbw.trans (hup.mono hbw.size)
   clear c1 c2 hup
   go_wp2_with fail
   refine hcon.out.mono ?_
   rintro e w2 ⟨rfl,hb2x⟩
   have hi4:=Hd (hj4.out.below hb2x (by simp; omega))
   have hi6:=Hd (hj6.out.below hb2x (by simp))
   have hend2:=hend.trans (hb2x.mono hend.size)
   have z0:=hi6.out.cell 0
   have z1:=hi6.out.cell 1
   have z2:=hi6.out.cell 2
   have y0:=hi4.out.cell 0
   have y1:=hi4.out.cell 1
   have y2:=hi4.out.cell 2
   have f0:=hi4.out.frozen 0
   have f1:=hi4.out.frozen 1
   have f2:=hi4.out.frozen 2
   simp at z0 z1 z2 y0 y1 y2
   clear hb2x hcon
   cases hkp : keepS kd s r with
   | true=>
    have hfin:=Hd (hhit.out hkp)
    clear hix hkp
    go_wp2
    refine bodyPost_ret (results_cell_row Tryz.results173 _ _ _ _ _ (0,0) _ rfl (((hi4.out.set_ 0 _).set_ 1 _).set_ 2 _ : Blk (((w2.setCell ⟨w.heap.size + 1,0,none⟩ (.int .u8 r.kind)).setCell ⟨w.heap.size + 1,1,none⟩ (.string r.long)).setCell ⟨w.heap.size + 1,2,none⟩ (.string r.short)) (w.heap.size + 1) 201 #[.int .u8 r.kind,.string r.long,.string r.short]) Tryz.underlying201 rfl size213) rfl ⟨?_,?_⟩
    ·rw [hfin.out]; rfl
    ·exact ((hend2.setCell (by simp) _).setCell (by simp) _).setCell (by simp) _
   | false=>
    have hs:=Hd (hstep.out hkp)
    clear hix hkp
    go_wp2
    go_roundw
    case rel=>exact ⟨k + 1,by omega,by go_num,hend2,hi4,hs⟩
    case measure=>simp [intOf]; omega
  ·obtain rfl : k = 40:=by omega
   have hfin:=Hd (show firstOf (keepS kd s) table = Row.zero from firstOf_none hno.out)
   have y0:=hk4.out.cell 0
   have y1:=hk4.out.cell 1
   have y2:=hk4.out.cell 2
   have f0:=hk4.out.frozen 0
   have f1:=hk4.out.frozen 1
   have f2:=hk4.out.frozen 2
   simp at y0 y1 y2
   go_wp2
   refine bodyPost_ret (results_cell_row Tryz.results173 _ _ _ _ _ (0,0) _ rfl ((((hk4.out.set_ 0 _).set_ 1 _).set_ 2 _).alloc _ : Blk ((((wr.setCell ⟨w.heap.size + 1,0,none⟩ (.int .u8 0)).setCell ⟨w.heap.size + 1,1,none⟩ (.string ⟨#[]⟩)).setCell ⟨w.heap.size + 1,2,none⟩ (.string ⟨#[]⟩)).alloc (.cells #[.int .u8 0,.string ⟨#[]⟩,.string ⟨#[]⟩] 201)) (w.heap.size + 1) 201 #[.int .u8 0,.string ⟨#[]⟩,.string ⟨#[]⟩]) Tryz.underlying201 rfl size213) rfl ⟨?_,?_⟩
   ·rw [hfin.out]; rfl
   ·exact (((hbw.setCell (by simp) _).setCell (by simp) _).setCell (by simp) _).alloc (by simp; omega) _
def shortOf (kd : Int) (s : ByteArray) : ByteArray × Bool:=
 if (table.find? (keepS kd s)).isSome then ((firstOf (keepS kd s) table).short,true) else (⟨#[]⟩,false)
theorem firstOf_kind {kd : Int} {s : ByteArray} (h : (table.find? (keepS kd s)).isSome = true) : 1 <= (firstOf (keepS kd s) table).kind:=by
 obtain ⟨r,hr⟩:=Option.isSome_iff_exists.1 h
 unfold firstOf
 rw [hr]
 exact (table_kind r (List.mem_of_find?_eq_some hr)).1
theorem firstOf_zero {kd : Int} {s : ByteArray} (h : (table.find? (keepS kd s)).isSome = false) : firstOf (keepS kd s) table = Row.zero:=by
 unfold firstOf
 rw [Option.isSome_eq_false_iff.1 h |> Option.isNone_iff_eq_none.1]
 rfl
theorem short_any (kd : Int) (s : ByteArray) (w : World) : Calls Tryz.prog 106 #[.int .u8 kd,.string s] w fun e w'=>e = .returned (.tuple #[.string (shortOf kd s).1,.bool (shortOf kd s).2]) /\ Below w.heap.size w w':=by
 have hW : Below w.heap.size w ((w.alloc (.cells #[.int .u8 kd] 5)).alloc (.cells #[.string s] 9)):=((Below.refl _ _).alloc (lQ _) _).alloc (by simp) _
 have hW3 : Below w.heap.size w (((w.alloc (.cells #[.int .u8 kd] 5)).alloc (.cells #[.string s] 9)).alloc (.cells tableCells 205)):=hW.alloc hW.size _
 have b2 : Blk (((w.alloc (.cells #[.int .u8 kd] 5)).alloc (.cells #[.string s] 9)).alloc (.cells tableCells 205)) w.heap.size 5 #[.int .u8 kd]:=((Blk.new _ _ _).alloc _).alloc _
 have b3 : Blk (((w.alloc (.cells #[.int .u8 kd] 5)).alloc (.cells #[.string s] 9)).alloc (.cells tableCells 205)) (w.heap.size + 1) 9 #[.string s]:=(Blk.new_at _ _ _ _ (by simp)).alloc _
 have hcon:=Hd (first_any kd s w.heap.size (w.heap.size + 1) _ (b2.cell 0) (b3.cell 0) b2.lt b3.lt)
 clear b2 b3
 go_enter Tryz.func106,Tryz.ntmps106
 go_wp2_with fail
 refine (rows_any _).mono ?_
 rintro e w1 ⟨rfl,rfl⟩
 go_wp2_with fail
 refine hcon.out.mono ?_
 rintro e w2 ⟨rfl,hb2⟩
 have hend:=hW3.trans (hb2.mono hW3.size)
 clear hcon hb2
 cases hh : (table.find? (keepS kd s)).isSome with
 | true=>
  have hfin:=Hd (show shortOf kd s = ((firstOf (keepS kd s) table).short,true) from by unfold shortOf; rw [if_pos hh])
  have hkk:=firstOf_kind hh
  generalize firstOf (keepS kd s) table = r at *
  obtain ⟨rk,rl,rs⟩:=r
  have hne : (rk == 0) = false:=by simp at hkk ⊢; omega
  unfold rowVal
  clear hh
  go_wp2
  go_ret2
  exact ⟨by rw [hfin.out]; rfl,hend.alloc hend.size _⟩
 | false=>
  have hfin:=Hd (show shortOf kd s = (⟨#[]⟩,false) from by unfold shortOf; rw [if_neg (by simp [hh])])
  rw [firstOf_zero hh]
  unfold rowVal Row.zero
  clear hh
  go_wp2
  go_ret2
  exact ⟨by rw [hfin.out]; rfl,hend.alloc hend.size _⟩
end
section
open Go.RowKit Go.Maps
def rowIn (_ : Nat -> Prop) (_ : World) (_ : Row) : Prop:=True
theorem rowIn_inner : Inner rowIn:=⟨fun h _ _=>h⟩
abbrev OwnRowsT:=OwnL 201 3 rowCells rowIn
theorem info201 : (Tryz.prog.info? 201).map (fun i=>(i.zero,i.size,i.bytes)) = some (some (.agg #[.int .u8 0,.string ⟨#[]⟩,.string ⟨#[]⟩]),3,40):=by kernel_rfl
theorem one3 {a b c : Value} (ha : a.oneCell' = true) (hb : b.oneCell' = true) (hc : c.oneCell' = true) : ∀ u ∈ [a,b,c],u.oneCell' = true:=by
 intro u hu
 rcases List.mem_cons.1 hu with rfl | hu
 ·exact ha
 ·rcases List.mem_cons.1 hu with rfl | hu
  ·exact hb
  ·rw [mS.1 hu]; exact hc
theorem selected_any (kd : Int) (s : ByteArray) (g1 g2 : Nat) (w : World) (h1 : w.cell? ⟨g1,0,none⟩ = some (.int .u8 kd)) (h2 : w.cell? ⟨g2,0,none⟩ = some (.string s)) (l1 : g1 < w.heap.size) (l2 : g2 < w.heap.size) :
  Calls Tryz.prog 145 #[.agg tableCells,.func (.func 144) #[] #[.pointer (some ⟨g1,0,none⟩),.pointer (some ⟨g2,0,none⟩)]] w fun e w'=>∃ v,e = .returned v /\ OwnRowsT w.heap.size w' v (table.filter (keepL kd s)) /\ Below w.heap.size w w':=by
 have hsz:=tableCells_size
 obtain ⟨i0,hi0,hz0,hz1,hz2⟩:=info_parts info201
 have hbW : Below w.heap.size w (w.alloc (.cells tableCells 205)):=(Below.refl _ _).alloc (lQ _) _
 go_enter Tryz.func145,Tryz.ntmps145
 go_upto_region 2 with fail
 apply wp_region_lit
 refine wpList_load_row rfl 205 (.tmp 2) rfl w.heap.size rfl 205 tableCells (0,0) _ (Blk.new _ _ _) Tryz.underlying205 rfl info205 ?_
 simp only [Act.put,sX,sZ,sS]
 generalize w.alloc (.cells tableCells 205) = W at *
 go_wp2
 go_loopw [5,9] (fun ov iv wr=>∃ (k : Nat) (l : List Row),k <= 40 /\ iv = .int .i64 k /\ Below w.heap.size w wr /\ OwnRowsT w.heap.size wr ov l /\ Hid (l = (table.take k).filter (keepL kd s)))
  (fun _ iv _=>40 - (intOf iv).toNat)
 case atStart=>exact ⟨0,[],by omega,rfl,hbW,OwnL.nil_,rfl⟩
 case round=>
  obtain ⟨k,l,hk,rfl,hbw,hown,hl⟩:=hrel
  rename World=>wr
  have n0 : (0 : Int) <= (k : Int):=by omega
  have hll : l.length <= 40:=by rw [hl.out]; exact Nat.le_trans (List.length_filter_le _ _) (by rw [List.length_take]; omega)
  obtain ⟨A3,c3,rfl⟩:=hown.form_
  have hown':=Hd hown
  clear hown
  by_cases hlt : k < 40
  ·have n1 : (k : Int) < 40:=by omega
   have hix:=index_table k hlt
   have htk:=Hd (show (table.take (k + 1)).filter (keepL kd s) = (table.take k).filter (keepL kd s) ++ (if keepL kd s (table.getD k Row.zero) then [table.getD k Row.zero] else []) from by
    rw [List.take_succ_eq_append_getElem (show k < table.length from hlt),List.filter_append,getD_at _ _ _ (show k < table.length from hlt)]
    congr 1
    cases h : keepL kd s table[k] <;> (simp; exact h))
   rw [<- hl.out] at htk
   generalize table.getD k Row.zero = r at hix htk
   have hup : Below wr.heap.size wr (wr.alloc (.cells #[.int .u8 r.kind,.string r.long,.string r.short] 201)):=(Below.refl _ _).alloc (lQ _) _
   have c1:=((hbw.trans (hup.mono hbw.size)).cell (p:=⟨g1,0,none⟩) l1).trans h1
   have c2:=((hbw.trans (hup.mono hbw.size)).cell (p:=⟨g2,0,none⟩) l2).trans h2
   have hcon:=Hd (keepL_any kd s g1 g2 r _ c1 c2 (by have:=hbw.size; simp; omega) (by have:=hbw.size; simp; omega))
   have hj6:=Hd (Blk.new wr 201 #[.int .u8 r.kind,.string r.long,.string r.short])
   clear c1 c2
   go_wp2_with fail
   refine hcon.out.mono ?_
   rintro e w2 ⟨rfl,hb2x⟩
   have hi6:=Hd (hj6.out.below hb2x (by simp))
   have hw2 : Below wr.heap.size wr w2:=hup.trans (hb2x.mono hup.size)
   have z0:=hi6.out.cell 0
   have z1:=hi6.out.cell 1
   have z2:=hi6.out.cell 2
   have hl6:=hi6.out.lt
   simp at z0 z1 z2
   clear hb2x hcon hup
   cases hkp : keepL kd s r with
   | true=>
    have hmap : Hid (l ++ [r] = (table.take (k + 1)).filter (keepL kd s)):=Hd (by rw [htk.out,hkp]; rfl)
    have hw3 : Below wr.heap.size wr (w2.alloc (.cells #[.int .u8 r.kind,.string r.long,.string r.short] 201)):=hw2.alloc hw2.size _
    have hoA:=Hd (hown'.out.keep rowIn_inner (Keeps.of_below hw3 _))
    have sd1 : l.length + 1 <= maxLen:=by unfold maxLen; omega
    have sd4 : (l.length + 1) * 40 <= 140737488355328:=by omega
    have hs0:=hbw.size
    have hs2:=hw2.size
    clear hix hkp
    go_wp2_with (at_builtin; refine wpList_append_lies _ rfl (.tmp 15) (.tmp 17) 203 rfl w.heap.size 201 i0 (.agg #[.int .u8 0,.string ⟨#[]⟩,.string ⟨#[]⟩]) 3 40 Tryz.underlying203 hi0 hz0 hz1 hz2 rfl (by decide) (.slice A3 l.length c3) l.length (l.flatMap rowCells) rfl (by exact hoA.out.1) ⟨w2.heap.size,0,none⟩ 1 1 [.int .u8 r.kind,.string r.long,.string r.short] rfl rfl (by exact World.news_of_block (cs:=#[.int .u8 r.kind,.string r.long,.string r.short]) (heap_alloc_new _ _)) (one3 rfl rfl rfl) Nat.one_pos sd1 sd4 (by simp; omega) (w2.heap.size + 1) (by simp) ?_; intro g2 cap2 w3 hown2 hgr2 hat2 hlt2)
    have hR:=slot_append rowIn_inner (a:=r) hbw hown'.out hw3 (lQ _) hbw.size trivial hown2 rfl hgr2 (hat2.imp_right (fun e=>by simp [e]))
    clear hown2 hgr2 hat2 hlt2
    go_roundw
    case rel=>exact ⟨k + 1,l ++ [r],by omega,by go_num,hR.1,by simpa using hR.2,hmap⟩
    case measure=>simp [intOf]; omega
   | false=>
    have hmap : Hid (l = (table.take (k + 1)).filter (keepL kd s)):=Hd (by rw [htk.out,hkp]; simp)
    have hoA:=Hd (hown'.out.keep rowIn_inner (Keeps.of_below hw2 _))
    have hend:=hbw.trans (hw2.mono hbw.size)
    clear hix hkp
    go_wp2
    go_roundw
    case rel=>exact ⟨k + 1,l,by omega,by go_num,hend,hoA.out,hmap⟩
    case measure=>simp [intOf]; omega
  ·obtain rfl : k = 40:=by omega
   have hm : Hid (l = table.filter (keepL kd s)):=Hd (by rw [hl.out]; rfl)
   go_wp2
   go_ret
   exact ⟨_,rfl,by rw [<- hm.out]; exact hown'.out,hbw⟩
end
section
open Go.RowKit
theorem has_any (v : Value) (l : List ByteArray) (s : ByteArray) (w : World) (h : IsTexts w v l) : Calls Tryz.prog 74 #[v,.string s] w fun e w'=>e = .returned (.bool (memB s l)) /\ w' = w:=by
 obtain ⟨A,c,rfl,hn,hc,hA⟩:=h
 unfold maxLen at hc
 have hA':=Hd hA
 clear hA
 go_enter Tryz.func74,Tryz.ntmps74
 go_wp2
 go_loop [9] (fun iv=>∃ k : Nat,k <= l.length /\ iv = .int .i64 k /\ Hid (s ∉ l.take k)) (fun iv=>l.length - (intOf iv).toNat)
 case atStart=>exact ⟨0,by omega,rfl,Hd (by simp)⟩
 case round=>
  obtain ⟨k,hk,rfl,hno⟩:=hrel
  have n0 : (0 : Int) <= (k : Int):=by omega
  by_cases hlt : k < l.length
  ·have n1 : (k : Int) < (l.length : Int):=by omega
   obtain ⟨b,off,rfl,hb,hi⟩:=hA'.out (by omega)
   have g:=(hi k hlt).1
   have hstep:=Hd (show l.getD k ByteArray.empty ≠ s -> s ∉ l.take (k + 1) from fun hne hm=>by
    rw [List.take_succ_eq_append_getElem hlt,List.mem_append] at hm
    rcases hm with hm | hm
    ·exact hno.out hm
    ·rw [getD_at l _ k hlt] at hne
     exact hne (mS.1 hm).symm)
   have hin:=Hd (show l.getD k ByteArray.empty ∈ l from by rw [getD_at l _ k hlt]; exact List.getElem_mem hlt)
   clear hi
   generalize l.getD k ByteArray.empty = x at g hstep hin
   by_cases hx : x = s
   ·subst hx
    have hfin:=Hd (memB_iff.2 hin.out)
    have b1 : (x.toList == x.toList) = true:=by simp
    go_wp2
    go_ret
    exact ⟨ret_bool hfin.out.symm,rfl⟩
   ·have b1:=tl_ne hx
    have hs:=Hd (hstep.out hx)
    clear hx
    go_wp2
    go_round
    case rel=>exact ⟨k + 1,by omega,by go_num,hs⟩
    case measure=>simp [intOf]; omega
  ·have hfin:=Hd (show memB s l = false from memB_false (by have:=hno.out; rwa [List.take_of_length_le (by omega)] at this))
   go_wp2
   go_ret
   exact ⟨ret_bool hfin.out.symm,rfl⟩
end
section
open Go.RowKit Go.Maps
theorem OwnL.base {α : Type} {E : TypeId} {k : Nat} {cells : α -> List Value} {I : (Nat -> Prop) -> World -> α -> Prop} (hI : Inner I) {B B' : Nat} {w : World} {v : Value} {ps : List α} (h : OwnL E k cells I B w v ps) (hB : B' <= B) : OwnL E k cells I B' w v ps:=by
 refine ⟨⟨h.1.1,?_⟩,fun p hp=>hI.keep (h.2 p hp) ⟨lQ _,fun _ _ _=>rfl⟩ fun b _ hb=>⟨Nat.le_trans hB hb.1,hb.2⟩⟩
 rcases h.1.2 with h0 | ⟨g,cap,cur,e,hb,hg⟩
 ·exact .inl h0
 ·exact .inr ⟨g,cap,cur,e,Nat.le_trans hB hb,hg⟩
def IsRow (w : World) (b o : Nat) (r : Row) : Prop:=
 w.cell? ⟨b,o,none⟩ = some (.int .u8 r.kind) /\ w.cell? ⟨b,o + 1,none⟩ = some (.string r.long) /\ w.cell? ⟨b,o + 2,none⟩ = some (.string r.short)
def IsRows (w : World) (v : Value) (rs : List Row) : Prop:=Sl w v rs.length fun b off i=>IsRow w b (off + i * 3) (rs.getD i Row.zero)
theorem OwnRowsT.rows {base : Nat} {w : World} {v : Value} {rs : List Row} (h : OwnRowsT base w v rs) : IsRows w v rs:=by
 have hsl:=OwnL.sl h (fun _=>rfl)
 exact SlP.plain hsl fun b off i _ _ hi hr=>by
  have h0:=hr.2.2 hi 0 (by omega)
  have h1:=hr.2.2 hi 1 (by omega)
  have h2:=hr.2.2 hi 2 (by omega)
  rw [getD_of rs Row.zero i hi]
  exact ⟨by simpa [rowCells] using h0,by simpa [rowCells] using h1,by simpa [rowCells] using h2⟩
theorem info9 : (Tryz.prog.info? 9).map (fun i=>(i.zero,i.size,i.bytes)) = some (some (.string ⟨#[]⟩),1,16):=by kernel_rfl
def addLong (ls : List ByteArray) (r : Row) : List ByteArray:=if memB r.long ls then ls else ls ++ [r.long]
def longsTo (rs : List Row) (k : Nat) : List ByteArray:=(rs.take k).foldl addLong []
def longsOf (kd : Int) (s : ByteArray) : List ByteArray:=(table.filter (keepL kd s)).foldl addLong []
theorem longsTo_succ (rs : List Row) (k : Nat) (h : k < rs.length) : longsTo rs (k + 1) = addLong (longsTo rs k) (rs.getD k Row.zero):=by
 unfold longsTo
 rw [List.take_succ_eq_append_getElem h,List.foldl_append,getD_at _ _ _ h]; rfl
theorem longsTo_len (rs : List Row) (k : Nat) (h : k <= rs.length) : (longsTo rs k).length <= k:=by
 induction k with
 | zero=>exact lQ _
 | succ k ih=>
  rw [longsTo_succ rs k h]
  have:=ih (by omega)
  unfold addLong
  split
  ·omega
  ·simp; omega
theorem kept_len (p : Row -> Bool) : (table.filter p).length <= 40:=Nat.le_trans (List.length_filter_le _ _) (Nat.le_of_eq table_len)
theorem one1 {a : Value} (ha : a.oneCell' = true) : ∀ u ∈ [a],u.oneCell' = true:=by
 intro u hu; rw [mS.1 hu]; exact ha
theorem longs_any (kd : Int) (s : ByteArray) (w : World) :
  Calls Tryz.prog 73 #[.int .u8 kd,.string s] w fun e w'=>∃ v,e = .returned v /\ OwnStrs w.heap.size w' v (longsOf kd s) /\ Below w.heap.size w w':=by
 obtain ⟨i0,hi0,hz0,hz1,hz2⟩:=info_parts info9
 have hW3 : Below w.heap.size w (((w.alloc (.cells #[.int .u8 kd] 5)).alloc (.cells #[.string s] 9)).alloc (.cells tableCells 205)):=(((Below.refl _ _).alloc (lQ _) _).alloc (by simp) _).alloc (by simp; omega) _
 have b2 : Blk (((w.alloc (.cells #[.int .u8 kd] 5)).alloc (.cells #[.string s] 9)).alloc (.cells tableCells 205)) w.heap.size 5 #[.int .u8 kd]:=((Blk.new _ _ _).alloc _).alloc _
 have b3 : Blk (((w.alloc (.cells #[.int .u8 kd] 5)).alloc (.cells #[.string s] 9)).alloc (.cells tableCells 205)) (w.heap.size + 1) 9 #[.string s]:=(Blk.new_at _ _ _ _ (by simp)).alloc _
 have hcon:=Hd (selected_any kd s w.heap.size (w.heap.size + 1) _ (b2.cell 0) (b3.cell 0) b2.lt b3.lt)
 clear b2 b3
 go_enter Tryz.func73,Tryz.ntmps73
 go_wp2_with fail
 refine (rows_any _).mono ?_
 rintro e w1 ⟨rfl,rfl⟩
 go_wp2_with fail
 refine hcon.out.mono ?_
 rintro e w2 ⟨v,rfl,hv,hb2⟩
 have hw2 : Below w.heap.size w w2:=hW3.trans (hb2.mono hW3.size)
 have hrows:=hv.rows
 have hlen:=Hd (kept_len (keepL kd s))
 have hlong:=Hd (show ∀ r ∈ table.filter (keepL kd s),r.long.size <= maxLen from fun r hr=>by have:=(table_size r (List.mem_filter.1 hr).1).1; unfold maxLen; omega)
 have hres:=Hd (show longsTo (table.filter (keepL kd s)) (table.filter (keepL kd s)).length = longsOf kd s from by unfold longsTo longsOf; rw [List.take_length])
 clear hcon hb2 hv hW3
 generalize table.filter (keepL kd s) = rs at *
 obtain ⟨A,c,rfl,hn,hc,hA⟩:=hrows
 unfold maxLen at hc
 have hA':=Hd hA
 clear hA
 have hs2:=hw2.size
 have hl40:=hlen.out
 go_wp2
 go_loopw [5,14] (fun ov iv wr=>∃ (k : Nat) (l : List ByteArray),k <= rs.length /\ iv = .int .i64 k /\ Below w2.heap.size w2 wr /\ OwnStrs w2.heap.size wr ov l /\ Hid (l = longsTo rs k))
  (fun _ iv _=>rs.length - (intOf iv).toNat)
 case atStart=>exact ⟨0,[],by omega,rfl,Below.refl _ _,OwnL.nil_,rfl⟩
 case round=>
  obtain ⟨k,l,hk,rfl,hbw,hown,hl⟩:=hrel
  rename World=>wr
  have n0 : (0 : Int) <= (k : Int):=by omega
  have hll : l.length <= 40:=by rw [hl.out]; exact Nat.le_trans (longsTo_len rs k hk) (by omega)
  obtain ⟨A3,c3,rfl⟩:=hown.form_
  have hown':=Hd hown
  clear hown
  by_cases hlt : k < rs.length
  ·have n1 : (k : Int) < (rs.length : Int):=by omega
   obtain ⟨b,off,rfl,hb,hi⟩:=hA'.out (by omega)
   have hnx:=Hd (longsTo_succ rs k hlt)
   rw [<- hl.out] at hnx
   obtain ⟨g0,g1,g2⟩:=hi k hlt
   rw [<- hbw.cell (p:=⟨b,off + k * 3,none⟩) hb] at g0
   rw [<- hbw.cell (p:=⟨b,off + k * 3 + 1,none⟩) hb] at g1
   rw [<- hbw.cell (p:=⟨b,off + k * 3 + 2,none⟩) hb] at g2
   have hlo:=hlong.out (rs.getD k Row.zero) (by rw [getD_at _ _ _ hlt]; exact List.getElem_mem hlt)
   clear hi
   generalize rs.getD k Row.zero = r at g0 g1 g2 hnx hlo
   have hup : Below wr.heap.size wr (wr.alloc (.cells #[.int .u8 r.kind,.string r.long,.string r.short] 201)):=(Below.refl _ _).alloc (lQ _) _
   have hcon:=Hd (has_any (.slice A3 l.length c3) l r.long _ (IsTexts.stays hown'.out.texts (Stays.of hup)))
   have hs0:=hbw.size
   go_wp2_with fail
   refine hcon.out.mono ?_
   rintro e w3 ⟨rfl,rfl⟩
   clear hcon
   cases hm : memB r.long l with
   | true=>
    have hmap : Hid (l = longsTo rs (k + 1)):=Hd (by rw [hnx.out]; unfold addLong; rw [if_pos hm])
    have hoA:=Hd (hown'.out.keep strIn_inner (Keeps.of_below hup _))
    have hend:=hbw.trans (hup.mono hs0)
    clear hm
    go_wp2
    go_roundw
    case rel=>exact ⟨k + 1,l,by omega,by go_num,hend,hoA.out,hmap⟩
    case measure=>simp [intOf]; omega
   | false=>
    have hmap : Hid (l ++ [r.long] = longsTo rs (k + 1)):=Hd (by rw [hnx.out]; unfold addLong; rw [hm]; rfl)
    have hw3 : Below wr.heap.size wr ((wr.alloc (.cells #[.int .u8 r.kind,.string r.long,.string r.short] 201)).alloc (.cells #[.string r.long] 9)):=hup.alloc hup.size _
    have hoA:=Hd (hown'.out.keep strIn_inner (Keeps.of_below hw3 _))
    have sd1 : l.length + 1 <= maxLen:=by unfold maxLen; omega
    have sd4 : (l.length + 1) * 16 <= 140737488355328:=by omega
    clear hm
    go_wp2_with (at_builtin; refine wpList_append_lies _ rfl (.tmp 23) (.tmp 26) 22 rfl w2.heap.size 9 i0 (.string ⟨#[]⟩) 1 16 Tryz.underlying22 hi0 hz0 hz1 hz2 rfl (by decide) (.slice A3 l.length c3) l.length (l.flatMap strCells) rfl (by exact hoA.out.1) ⟨wr.heap.size + 1,0,none⟩ 1 1 [.string r.long] rfl rfl (by exact World.news_of_block (cs:=#[.string r.long]) (by rw [show wr.heap.size + 1 = (wr.alloc (.cells #[.int .u8 r.kind,.string r.long,.string r.short] 201)).heap.size from by simp]; exact heap_alloc_new _ _)) (one1 rfl) Nat.one_pos sd1 sd4 (by simp; omega) (wr.heap.size + 2) (by simp) ?_; intro g2 cap2 w3 hown2 hgr2 hat2 hlt2)
    have hR:=slot_append strIn_inner (a:=r.long) hbw hown'.out hw3 (lQ _) hbw.size hlo hown2 rfl hgr2 (hat2.imp_right (fun e=>by simp [e]))
    clear hown2 hgr2 hat2 hlt2
    go_roundw
    case rel=>exact ⟨k + 1,l ++ [r.long],by omega,by go_num,hR.1,by simpa using hR.2,hmap⟩
    case measure=>simp [intOf]; omega
  ·obtain rfl : k = rs.length:=by omega
   have hm : Hid (l = longsOf kd s):=Hd (by rw [hl.out]; exact hres.out)
   go_wp2
   go_ret
   exact ⟨_,rfl,by rw [<- hm.out]; exact hown'.out.base strIn_inner hs2,hw2.trans (hbw.mono hs2)⟩
end
section
open Go.RowKit Go.Maps
def byteAt (s : ByteArray) (i : Nat) : Nat:=if h : i < s.size then (s[i]'h).toNat else 0
def wordsTo (s : ByteArray) : Nat -> Nat × List ByteArray
 | 0=>(0,[])
 | i + 1=>if i < s.size /\ byteAt s i ≠ 32 then wordsTo s i else (i + 1,if (wordsTo s i).1 < i then (wordsTo s i).2 ++ [s.extract (wordsTo s i).1 i] else (wordsTo s i).2)
def wordsOf (s : ByteArray) : List ByteArray:=(wordsTo s (s.size + 1)).2
theorem wordsTo_start (s : ByteArray) : ∀ i,(wordsTo s i).1 <= i
 | 0=>lQ _
 | i + 1=>by
  have:=wordsTo_start s i
  unfold wordsTo
  split
  ·omega
  ·exact lQ _
theorem wordsTo_len (s : ByteArray) : ∀ i,(wordsTo s i).2.length <= i
 | 0=>lQ _
 | i + 1=>by
  have:=wordsTo_len s i
  unfold wordsTo
  split
  ·omega
  ·simp only []; split
   ·simp; omega
   ·omega
theorem wordsTo_keep {s : ByteArray} {i : Nat} (h : i < s.size) (hb : byteAt s i ≠ 32) : wordsTo s (i + 1) = wordsTo s i:=by
 rw [wordsTo,if_pos ⟨h,hb⟩]
theorem wordsTo_cut {s : ByteArray} {i : Nat} (h : ¬ (i < s.size /\ byteAt s i ≠ 32)) : wordsTo s (i + 1) = (i + 1,if (wordsTo s i).1 < i then (wordsTo s i).2 ++ [s.extract (wordsTo s i).1 i] else (wordsTo s i).2):=by
 rw [wordsTo,if_neg h]
theorem words_any (s : ByteArray) (w : World) (hsz : s.size <= 1000000) :
  Calls Tryz.prog 32 #[.string s] w fun e w'=>∃ v,e = .returned v /\ OwnStrs w.heap.size w' v (wordsOf s) /\ Below w.heap.size w w':=by
 obtain ⟨i0,hi0,hz0,hz1,hz2⟩:=info_parts info9
 go_enter Tryz.func32,Tryz.ntmps32
 go_wp2
 go_loopw [3,4,5] (fun ov sv iv wr=>∃ (k st : Nat) (l : List ByteArray),k <= s.size + 1 /\ iv = .int .i64 k /\ sv = .int .i64 st /\ Below w.heap.size w wr /\ OwnStrs w.heap.size wr ov l /\ Hid (wordsTo s k = (st,l)))
  (fun _ _ iv _=>s.size + 1 - (intOf iv).toNat)
 case atStart=>exact ⟨0,0,[],by omega,rfl,rfl,Below.refl _ _,OwnL.nil_,Hd rfl⟩
 case round=>
  obtain ⟨k,st,l,hk,rfl,rfl,hbw,hown,hl⟩:=hrel
  rename World=>wr
  have n0 : (0 : Int) <= (k : Int):=by omega
  have hll : l.length <= 1000001:=by have:=wordsTo_len s k; rw [hl.out] at this; exact Nat.le_trans this (by omega)
  have hst : st <= k:=by have:=wordsTo_start s k; rw [hl.out] at this; exact this
  obtain ⟨A3,c3,rfl⟩:=hown.form_
  have hown':=Hd hown
  clear hown
  have hs0:=hbw.size
  by_cases hle : k <= s.size
  ·have n1 : (k : Int) <= (s.size : Int):=by omega
   by_cases hlt : k < s.size
   ·have n2 : (k : Int) < (s.size : Int):=by omega
    by_cases h32 : byteAt s k = 32
    ·have hb : decide (((s[k]'hlt).toNat : Int) = 32) = true:=by unfold byteAt at h32; rw [dif_pos hlt] at h32; exact decide_eq_true (by omega)
     have hb2 : ((((s[k]'hlt).toNat : Int)) == 32) = true:=by simpa using hb
     have hb3 : ((((s[k]'hlt).toNat : Int)) != 32) = false:=by simpa using hb
     have hcut : Hid (¬ (k < s.size /\ byteAt s k ≠ 32)):=Hd fun h=>h.2 h32
     clear h32
     by_cases hw : st < k
     ·have hnx : Hid (wordsTo s (k + 1) = (k + 1,l ++ [s.extract st k])):=Hd (by rw [wordsTo_cut hcut.out,hl.out]; simp only []; rw [if_pos hw])
      have n3 : (st : Int) < (k : Int):=by omega
      have n4 : (0 : Int) <= (st : Int):=by omega
      have n5 : (st : Int) <= (k : Int):=by omega
      have hpz : (s.extract st k).size <= maxLen:=by rw [ByteArray.size_extract]; unfold maxLen; omega
      have hup : Below wr.heap.size wr (wr.alloc (.cells #[.string (s.extract st k)] 9)):=(Below.refl _ _).alloc (lQ _) _
      have hoA:=Hd (hown'.out.keep strIn_inner (Keeps.of_below hup _))
      have sd1 : l.length + 1 <= maxLen:=by unfold maxLen; omega
      have sd4 : (l.length + 1) * 16 <= 140737488355328:=by omega
      go_wp2_with (at_builtin; refine wpList_append_lies _ rfl (.tmp 25) (.tmp 30) 22 rfl w.heap.size 9 i0 (.string ⟨#[]⟩) 1 16 Tryz.underlying22 hi0 hz0 hz1 hz2 rfl (by decide) (.slice A3 l.length c3) l.length (l.flatMap strCells) rfl (by exact hoA.out.1) ⟨wr.heap.size,0,none⟩ 1 1 [.string (s.extract st k)] rfl rfl (by exact World.news_of_block (cs:=#[.string (s.extract st k)]) (heap_alloc_new _ _)) (one1 rfl) Nat.one_pos sd1 sd4 (by simp; omega) (wr.heap.size + 1) (by simp) ?_; intro g2 cap2 w3 hown2 hgr2 hat2 hlt2)
      have hR:=slot_append strIn_inner (a:=s.extract st k) hbw hown'.out hup (lQ _) hbw.size hpz hown2 rfl hgr2 (hat2.imp_right (fun e=>by simp [e]))
      clear hown2 hgr2 hat2 hlt2
      go_roundw
      case rel=>exact ⟨k + 1,k + 1,l ++ [s.extract st k],by omega,by go_num,by go_num,hR.1,by simpa using hR.2,hnx⟩
      case measure=>simp [intOf]; omega
     ·have hnx : Hid (wordsTo s (k + 1) = (k + 1,l)):=Hd (by rw [wordsTo_cut hcut.out,hl.out]; simp only []; rw [if_neg hw])
      obtain rfl : st = k:=by omega
      go_wp2
      go_roundw
      case rel=>exact ⟨st + 1,st + 1,l,by omega,by go_num,by go_num,hbw,hown'.out,hnx⟩
      case measure=>simp [intOf]; omega
    ·have hb : decide (((s[k]'hlt).toNat : Int) = 32) = false:=by unfold byteAt at h32; rw [dif_pos hlt] at h32; exact decide_eq_false (by omega)
     have hb2 : ((((s[k]'hlt).toNat : Int)) == 32) = false:=by simpa using hb
     have hb3 : ((((s[k]'hlt).toNat : Int)) != 32) = true:=by simpa using hb
     have hnx : Hid (wordsTo s (k + 1) = (st,l)):=Hd (by rw [wordsTo_keep hlt h32,hl.out])
     clear h32
     go_wp2
     go_roundw
     case rel=>exact ⟨k + 1,st,l,by omega,by go_num,rfl,hbw,hown'.out,hnx⟩
     case measure=>simp [intOf]; omega
   ·obtain rfl : k = s.size:=by omega
    have hcut : Hid (¬ (s.size < s.size /\ byteAt s s.size ≠ 32)):=Hd fun h=>hlt h.1
    by_cases hw : st < s.size
    ·have hnx : Hid (wordsTo s (s.size + 1) = (s.size + 1,l ++ [s.extract st s.size])):=Hd (by rw [wordsTo_cut hcut.out,hl.out]; simp only []; rw [if_pos hw])
     have n3 : (st : Int) < (s.size : Int):=by omega
     have n4 : (0 : Int) <= (st : Int):=by omega
     have n5 : (st : Int) <= (s.size : Int):=by omega
     have hpz : (s.extract st s.size).size <= maxLen:=by rw [ByteArray.size_extract]; unfold maxLen; omega
     have hup : Below wr.heap.size wr (wr.alloc (.cells #[.string (s.extract st s.size)] 9)):=(Below.refl _ _).alloc (lQ _) _
     have hoA:=Hd (hown'.out.keep strIn_inner (Keeps.of_below hup _))
     have sd1 : l.length + 1 <= maxLen:=by unfold maxLen; omega
     have sd4 : (l.length + 1) * 16 <= 140737488355328:=by omega
     go_wp2_with (at_builtin; refine wpList_append_lies _ rfl (.tmp 25) (.tmp 30) 22 rfl w.heap.size 9 i0 (.string ⟨#[]⟩) 1 16 Tryz.underlying22 hi0 hz0 hz1 hz2 rfl (by decide) (.slice A3 l.length c3) l.length (l.flatMap strCells) rfl (by exact hoA.out.1) ⟨wr.heap.size,0,none⟩ 1 1 [.string (s.extract st s.size)] rfl rfl (by exact World.news_of_block (cs:=#[.string (s.extract st s.size)]) (heap_alloc_new _ _)) (one1 rfl) Nat.one_pos sd1 sd4 (by simp; omega) (wr.heap.size + 1) (by simp) ?_; intro g2 cap2 w3 hown2 hgr2 hat2 hlt2)
     have hR:=slot_append strIn_inner (a:=s.extract st s.size) hbw hown'.out hup (lQ _) hbw.size hpz hown2 rfl hgr2 (hat2.imp_right (fun e=>by simp [e]))
     clear hown2 hgr2 hat2 hlt2
     go_roundw
     case rel=>exact ⟨s.size + 1,s.size + 1,l ++ [s.extract st s.size],by omega,by go_num,by go_num,hR.1,by simpa using hR.2,hnx⟩
     case measure=>simp [intOf]
    ·have hnx : Hid (wordsTo s (s.size + 1) = (s.size + 1,l)):=Hd (by rw [wordsTo_cut hcut.out,hl.out]; simp only []; rw [if_neg hw])
     obtain rfl : st = s.size:=by omega
     go_wp2
     go_roundw
     case rel=>exact ⟨s.size + 1,s.size + 1,l,by omega,by go_num,by go_num,hbw,hown'.out,hnx⟩
     case measure=>simp [intOf]
  ·obtain rfl : k = s.size + 1:=by omega
   have hm : Hid (l = wordsOf s):=Hd (by unfold wordsOf; rw [hl.out])
   go_wp2
   go_ret
   exact ⟨_,rfl,by rw [<- hm.out]; exact hown'.out,hbw⟩
end
end Go.Proofs.YteclineblddpbaaGreatDoorR
