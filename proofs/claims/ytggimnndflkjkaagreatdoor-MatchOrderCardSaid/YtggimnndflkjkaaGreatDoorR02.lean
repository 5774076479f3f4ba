import Derived.Test.YtggimnndflkjkaaGreatDoorR01
set_option linter.all false
set_option maxRecDepth 100000
set_option maxHeartbeats 0
namespace Go.Proofs.YtggimnndflkjkaaGreatDoor
section
open Go.RowKit
def zdn (kd : Int) (s : ByteArray) (r : Row) : Bool:=(decide (kd = 0) || decide (r.kind = kd)) && zwV s r
def zcz (kd : Int) (s : ByteArray) (r : Row) : Bool:=(decide (kd = 0) || decide (r.kind = kd)) && decide (r.long = s)
theorem zuV (kd : Int) (s : ByteArray) (g1 g2 : Nat) (r : Row) (w : World) (h1 : w.cell? ⟨g1,0,none⟩ = some (.int .u8 kd)) (h2 : w.cell? ⟨g2,0,none⟩ = some (.string s)) (l1 : g1 < w.heap.size) (l2 : g2 < w.heap.size) :
  Calls Tryz.prog 188 #[.agg #[.int .u8 r.kind,.string r.long,.string r.short],.pointer (some ⟨g1,0,none⟩),.pointer (some ⟨g2,0,none⟩)] w fun e w'=>e = .returned (.bool (zdn kd s r)) /\ Below w.heap.size w w':=by
 obtain ⟨rk,rl,rs⟩:=r;have hend : Below w.heap.size w (w.alloc (.cells #[.int .u8 rk,.string rl,.string rs] 213)):=(Below.refl _ _).alloc (lQ _) _;have hfin:=Hd (show zdn kd s ⟨rk,rl,rs⟩ = zdn kd s ⟨rk,rl,rs⟩ from rfl);by_cases q : kd = 0 \/ rk = kd
 case neg=>
  have q1 : (kd == 0) = false:=by simp; omega
  have q2 : (rk == kd) = false:=by simp; omega
  have hf:=Hd (show zdn kd s ⟨rk,rl,rs⟩ = false from by unfold zdn; simp; omega);clear q;go_enter Tryz.func188,Tryz.ntmps188;go_wp2;go_ret;exact ⟨zf hf.out.symm,hend⟩
 case pos=>
 have hk : (decide (kd = 0) || decide (rk = kd)) = true:=by simpa using q
 by_cases e1 : rl = s
 ·have b1 : (rl.toList == s.toList) = true:=by rw [e1]; simp
  have hf:=Hd (show zdn kd s ⟨rk,rl,rs⟩ = true from by unfold zdn; rw [hk]; simp [zwV,e1]);clear e1 hk hfin;by_cases q0 : kd = 0
  ·subst q0
   go_enter Tryz.func188,Tryz.ntmps188;go_wp2;go_ret;exact ⟨zf hf.out.symm,hend⟩
  ·have q1 : (kd == 0) = false:=by simpa using q0
   have q2 : (rk == kd) = true:=by simp; omega
   clear q0;go_enter Tryz.func188,Tryz.ntmps188;go_wp2;go_ret;exact ⟨zf hf.out.symm,hend⟩
 ·have b1:=zlI e1
  by_cases e2 : rs = s
  ·have b2 : (rs.toList == s.toList) = true:=by rw [e2]; simp
   have hf:=Hd (show zdn kd s ⟨rk,rl,rs⟩ = true from by unfold zdn; rw [hk]; simp [zwV,e2]);clear e1 e2 hk hfin;by_cases q0 : kd = 0
   ·subst q0
    go_enter Tryz.func188,Tryz.ntmps188;go_wp2;go_ret;exact ⟨zf hf.out.symm,hend⟩
   ·have q1 : (kd == 0) = false:=by simpa using q0
    have q2 : (rk == kd) = true:=by simp; omega
    clear q0;go_enter Tryz.func188,Tryz.ntmps188;go_wp2;go_ret;exact ⟨zf hf.out.symm,hend⟩
  ·have b2:=zlI e2
   have hf:=Hd (show zdn kd s ⟨rk,rl,rs⟩ = false from by unfold zdn; rw [hk]; simp [zwV,e1,e2]);clear e1 e2 hk hfin;by_cases q0 : kd = 0
   ·subst q0
    go_enter Tryz.func188,Tryz.ntmps188;go_wp2;go_ret;exact ⟨zf hf.out.symm,hend⟩
   ·have q1 : (kd == 0) = false:=by simpa using q0
    have q2 : (rk == kd) = true:=by simp; omega
    clear q0;go_enter Tryz.func188,Tryz.ntmps188;go_wp2;go_ret;exact ⟨zf hf.out.symm,hend⟩
theorem zuW (kd : Int) (s : ByteArray) (g1 g2 : Nat) (r : Row) (w : World) (h1 : w.cell? ⟨g1,0,none⟩ = some (.int .u8 kd)) (h2 : w.cell? ⟨g2,0,none⟩ = some (.string s)) (l1 : g1 < w.heap.size) (l2 : g2 < w.heap.size) :
  Calls Tryz.prog 144 #[.agg #[.int .u8 r.kind,.string r.long,.string r.short],.pointer (some ⟨g1,0,none⟩),.pointer (some ⟨g2,0,none⟩)] w fun e w'=>e = .returned (.bool (zcz kd s r)) /\ Below w.heap.size w w':=by
 obtain ⟨rk,rl,rs⟩:=r;have hend : Below w.heap.size w (w.alloc (.cells #[.int .u8 rk,.string rl,.string rs] 213)):=(Below.refl _ _).alloc (lQ _) _;have hfin:=Hd (show zcz kd s ⟨rk,rl,rs⟩ = zcz kd s ⟨rk,rl,rs⟩ from rfl);by_cases q : kd = 0 \/ rk = kd
 case neg=>
  have q1 : (kd == 0) = false:=by simp; omega
  have q2 : (rk == kd) = false:=by simp; omega
  have hf:=Hd (show zcz kd s ⟨rk,rl,rs⟩ = false from by unfold zcz; simp; omega);clear q;go_enter Tryz.func144,Tryz.ntmps144;go_wp2;go_ret;exact ⟨zf hf.out.symm,hend⟩
 case pos=>
 have hk : (decide (kd = 0) || decide (rk = kd)) = true:=by simpa using q
 by_cases e1 : rl = s
 ·have b1 : (rl.toList == s.toList) = true:=by rw [e1]; simp
  have hf:=Hd (show zcz kd s ⟨rk,rl,rs⟩ = true from by unfold zcz; rw [hk]; simp [e1]);clear e1 hk hfin;by_cases q0 : kd = 0
  ·subst q0
   go_enter Tryz.func144,Tryz.ntmps144;go_wp2;go_ret;exact ⟨zf hf.out.symm,hend⟩
  ·have q1 : (kd == 0) = false:=by simpa using q0
   have q2 : (rk == kd) = true:=by simp; omega
   clear q0;go_enter Tryz.func144,Tryz.ntmps144;go_wp2;go_ret;exact ⟨zf hf.out.symm,hend⟩
 ·have b1:=zlI e1
  have hf:=Hd (show zcz kd s ⟨rk,rl,rs⟩ = false from by unfold zcz; rw [hk]; simp [e1]);clear e1 hk hfin;by_cases q0 : kd = 0
  ·subst q0
   go_enter Tryz.func144,Tryz.ntmps144;go_wp2;go_ret;exact ⟨zf hf.out.symm,hend⟩
  ·have q1 : (kd == 0) = false:=by simpa using q0
   have q2 : (rk == kd) = true:=by simp; omega
   clear q0;go_enter Tryz.func144,Tryz.ntmps144;go_wp2;go_ret;exact ⟨zf hf.out.symm,hend⟩
def zvK (r : Row) : Value:=.agg #[.int .u8 r.kind,.string r.long,.string r.short]
def zdm (keep : Row -> Bool) (l : List Row) : Row:=(l.find? keep).getD Row.zero
theorem zqh {keep : Row -> Bool} {l : List Row} {k : Nat} (h : k < l.length) (hno : ∀ i,i < k -> keep (l.getD i Row.zero) = false) (hk : keep (l.getD k Row.zero) = true) : zdm keep l = l.getD k Row.zero:=by
 unfold zdm;rw [show l.find? keep = some (l.getD k Row.zero) from ?_]
 ·rfl
 ·rw [zD l _ k h] at hk ⊢
  refine List.find?_eq_some_iff_getElem.2 ⟨hk,k,h,rfl,fun j hj=>?_⟩;have:=hno j hj;rw [zD l _ j (by omega)] at this;simp [this]
theorem zoo {keep : Row -> Bool} {l : List Row} (hno : ∀ i,i < l.length -> keep (l.getD i Row.zero) = false) : zdm keep l = Row.zero:=by
 unfold zdm;rw [List.find?_eq_none.2 fun r hr=>?_]
 ·rfl
 ·obtain ⟨i,hi,rfl⟩:=List.getElem_of_mem hr
  have:=hno i hi;rw [zD l _ i hi] at this;simp [this]
theorem zvN : (Tryz.prog.info? 213).map (·.size) = some 3:=by kernel_rfl
theorem zuE (kd : Int) (s : ByteArray) (g1 g2 : Nat) (w : World) (h1 : w.cell? ⟨g1,0,none⟩ = some (.int .u8 kd)) (h2 : w.cell? ⟨g2,0,none⟩ = some (.string s)) (l1 : g1 < w.heap.size) (l2 : g2 < w.heap.size) :
  Calls Tryz.prog 142 #[.agg zM,.func (.func 144) #[] #[.pointer (some ⟨g1,0,none⟩),.pointer (some ⟨g2,0,none⟩)]] w fun e w'=>e = .returned (zvK (zdm (zcz kd s) zaY)) /\ Below w.heap.size w w':=by
 have hsz:=zeT;have hbW : Below w.heap.size w ((w.alloc (.cells zM 215)).alloc (.cells #[.int .u8 0,.string ⟨#[]⟩,.string ⟨#[]⟩] 213)):=((Below.refl _ _).alloc (lQ _) _).alloc (by simp) _;have hb4 : Blk ((w.alloc (.cells zM 215)).alloc (.cells #[.int .u8 0,.string ⟨#[]⟩,.string ⟨#[]⟩] 213)) (w.heap.size + 1) 213 #[.int .u8 0,.string ⟨#[]⟩,.string ⟨#[]⟩]:=Blk.new_at _ _ _ _ (by simp);have hb2 : Blk ((w.alloc (.cells zM 215)).alloc (.cells #[.int .u8 0,.string ⟨#[]⟩,.string ⟨#[]⟩] 213)) w.heap.size 215 zM:=(Blk.new _ _ _).alloc _;go_enter Tryz.func142,Tryz.ntmps142;go_upto_region 1 with fail
 apply wp_region_lit
 refine wpList_load_row rfl 215 (.tmp 2) rfl w.heap.size rfl 215 zM (0,0) _ hb2 Tryz.underlying215 rfl ziN ?_;simp only [Act.put,sX,sZ,sS];generalize (w.alloc (.cells zM 215)).alloc (.cells #[.int .u8 0,.string ⟨#[]⟩,.string ⟨#[]⟩] 213) = W at *;go_wp2
 go_loopw [9] (fun iv wr=>∃ (k : Nat),k <= 40 /\ iv = .int .i64 k /\ Below w.heap.size w wr /\ Hid (Blk wr (w.heap.size + 1) 213 #[.int .u8 0,.string ⟨#[]⟩,.string ⟨#[]⟩]) /\ Hid (∀ i,i < k -> zcz kd s (zaY.getD i Row.zero) = false))
  (fun iv _=>40 - (intOf iv).toNat)
 case atStart=>exact ⟨0,by omega,rfl,hbW,hb4,fun _ h=>absurd h (by omega)⟩
 case round=>
  obtain ⟨k,hk,rfl,hbw,hk4,hno⟩:=hrel;rename World=>wr;have n0 : (0 : Int) <= (k : Int):=by omega
  have hl4:=hk4.out.lt;by_cases hlt : k < 40
  ·have n1 : (k : Int) < 40:=by omega
   have hix:=zhE k hlt;have hhit:=Hd (show zcz kd s (zaY.getD k Row.zero) = true -> zdm (zcz kd s) zaY = zaY.getD k Row.zero from fun h=>zqh (show k < zaY.length from hlt) hno.out h)
   have hstep:=Hd (show zcz kd s (zaY.getD k Row.zero) = false -> ∀ i,i < k + 1 -> zcz kd s (zaY.getD i Row.zero) = false from fun h i hi=>by
    rcases Nat.lt_or_ge i k with h1 | h1
    ·exact hno.out i h1
    ·rw [show i = k from by omega]; exact h)
   generalize zaY.getD k Row.zero = r at hix hhit hstep;have hup : Below wr.heap.size wr (wr.alloc (.cells #[.int .u8 r.kind,.string r.long,.string r.short] 213)):=(Below.refl _ _).alloc (lQ _) _;have c1:=((hbw.trans (hup.mono hbw.size)).cell (p:=⟨g1,0,none⟩) l1).trans h1;have c2:=((hbw.trans (hup.mono hbw.size)).cell (p:=⟨g2,0,none⟩) l2).trans h2;have hcon:=Hd (zuW kd s g1 g2 r _ c1 c2 (by have:=hbw.size; simp; omega) (by have:=hbw.size; simp; omega));have hj4:=Hd (hk4.out.alloc (.cells #[.int .u8 r.kind,.string r.long,.string r.short] 213));have hj6:=Hd (Blk.new wr 213 #[.int .u8 r.kind,.string r.long,.string r.short]);have hend:=hbw.trans (hup.mono hbw.size);clear c1 c2 hup;go_wp2_with fail;refine hcon.out.mono ?_;rintro e w2 ⟨rfl,hb2x⟩;have hi4:=Hd (hj4.out.below hb2x (by simp; omega));have hi6:=Hd (hj6.out.below hb2x (by simp));have hend2:=hend.trans (hb2x.mono hend.size);have z0:=hi6.out.cell 0;have z1:=hi6.out.cell 1;have z2:=hi6.out.cell 2;have y0:=hi4.out.cell 0;have y1:=hi4.out.cell 1;have y2:=hi4.out.cell 2;have f0:=hi4.out.frozen 0;have f1:=hi4.out.frozen 1;have f2:=hi4.out.frozen 2;simp at z0 z1 z2 y0 y1 y2;clear hb2x hcon
   cases hkp : zcz kd s r with
   | true=>
    have hfin:=Hd (hhit.out hkp);clear hix hkp;go_wp2;refine bodyPost_ret (results_cell_row Tryz.results142 _ _ _ _ _ (0,0) _ rfl (((hi4.out.set_ 0 _).set_ 1 _).set_ 2 _ : Blk (((w2.setCell ⟨w.heap.size + 1,0,none⟩ (.int .u8 r.kind)).setCell ⟨w.heap.size + 1,1,none⟩ (.string r.long)).setCell ⟨w.heap.size + 1,2,none⟩ (.string r.short)) (w.heap.size + 1) 213 #[.int .u8 r.kind,.string r.long,.string r.short]) Tryz.underlying213 rfl zvN) rfl ⟨?_,?_⟩
    ·rw [hfin.out]; rfl
    ·exact ((hend2.setCell (by simp) _).setCell (by simp) _).setCell (by simp) _
   | false=>
    have hs:=Hd (hstep.out hkp);clear hix hkp;go_wp2;go_roundw
    case rel=>exact ⟨k + 1,by omega,by go_num,hend2,hi4,hs⟩
    case measure=>simp [intOf]; omega
  ·obtain rfl : k = 40:=by omega
   have hfin:=Hd (show zdm (zcz kd s) zaY = Row.zero from zoo hno.out);have y0:=hk4.out.cell 0;have y1:=hk4.out.cell 1;have y2:=hk4.out.cell 2;have f0:=hk4.out.frozen 0;have f1:=hk4.out.frozen 1;have f2:=hk4.out.frozen 2;simp at y0 y1 y2;go_wp2;refine bodyPost_ret (results_cell_row Tryz.results142 _ _ _ _ _ (0,0) _ rfl ((((hk4.out.set_ 0 _).set_ 1 _).set_ 2 _).alloc _ : Blk ((((wr.setCell ⟨w.heap.size + 1,0,none⟩ (.int .u8 0)).setCell ⟨w.heap.size + 1,1,none⟩ (.string ⟨#[]⟩)).setCell ⟨w.heap.size + 1,2,none⟩ (.string ⟨#[]⟩)).alloc (.cells #[.int .u8 0,.string ⟨#[]⟩,.string ⟨#[]⟩] 213)) (w.heap.size + 1) 213 #[.int .u8 0,.string ⟨#[]⟩,.string ⟨#[]⟩]) Tryz.underlying213 rfl zvN) rfl ⟨?_,?_⟩
   ·rw [hfin.out]; rfl
   ·exact (((hbw.setCell (by simp) _).setCell (by simp) _).setCell (by simp) _).alloc (by simp; omega) _
def zbY (kd : Int) (s : ByteArray) : ByteArray × Bool:=
 if (zaY.find? (zcz kd s)).isSome then ((zdm (zcz kd s) zaY).short,true) else (⟨#[]⟩,false)
theorem zon {kd : Int} {s : ByteArray} (h : (zaY.find? (zcz kd s)).isSome = true) : 1 <= (zdm (zcz kd s) zaY).kind:=by
 obtain ⟨r,hr⟩:=Option.isSome_iff_exists.1 h;unfold zdm;rw [hr];exact (zjd r (List.mem_of_find?_eq_some hr)).1
theorem zop {kd : Int} {s : ByteArray} (h : (zaY.find? (zcz kd s)).isSome = false) : zdm (zcz kd s) zaY = Row.zero:=by
 unfold zdm;rw [Option.isSome_eq_false_iff.1 h |> Option.isNone_iff_eq_none.1];rfl
theorem zvM (kd : Int) (s : ByteArray) (w : World) : Calls Tryz.prog 82 #[.int .u8 kd,.string s] w fun e w'=>e = .returned (.tuple #[.string (zbY kd s).1,.bool (zbY kd s).2]) /\ Below w.heap.size w w':=by
 have hW : Below w.heap.size w ((w.alloc (.cells #[.int .u8 kd] 5)).alloc (.cells #[.string s] 9)):=((Below.refl _ _).alloc (lQ _) _).alloc (by simp) _;have hW3 : Below w.heap.size w (((w.alloc (.cells #[.int .u8 kd] 5)).alloc (.cells #[.string s] 9)).alloc (.cells zM 215)):=hW.alloc hW.size _;have b2 : Blk (((w.alloc (.cells #[.int .u8 kd] 5)).alloc (.cells #[.string s] 9)).alloc (.cells zM 215)) w.heap.size 5 #[.int .u8 kd]:=((Blk.new _ _ _).alloc _).alloc _;have b3 : Blk (((w.alloc (.cells #[.int .u8 kd] 5)).alloc (.cells #[.string s] 9)).alloc (.cells zM 215)) (w.heap.size + 1) 9 #[.string s]:=(Blk.new_at _ _ _ _ (by simp)).alloc _;have hcon:=Hd (zuE kd s w.heap.size (w.heap.size + 1) _ (b2.cell 0) (b3.cell 0) b2.lt b3.lt);clear b2 b3;go_enter Tryz.func82,Tryz.ntmps82;go_wp2_with fail;refine (znF _).mono ?_;rintro e w1 ⟨rfl,rfl⟩;go_wp2_with fail;refine hcon.out.mono ?_;rintro e w2 ⟨rfl,hb2⟩;have hend:=hW3.trans (hb2.mono hW3.size);clear hcon hb2
 cases hh : (zaY.find? (zcz kd s)).isSome with
 | true=>
  have hfin:=Hd (show zbY kd s = ((zdm (zcz kd s) zaY).short,true) from by unfold zbY; rw [if_pos hh]);have hkk:=zon hh;generalize zdm (zcz kd s) zaY = r at *;obtain ⟨rk,rl,rs⟩:=r;have hne : (rk == 0) = false:=by simp at hkk ⊢; omega
  unfold zvK;clear hh;go_wp2
  go_ret2
  exact ⟨by rw [hfin.out]; rfl,hend.alloc hend.size _⟩
 | false=>
  have hfin:=Hd (show zbY kd s = (⟨#[]⟩,false) from by unfold zbY; rw [if_neg (by simp [hh])]);rw [zop hh];unfold zvK Row.zero;clear hh;go_wp2
  go_ret2
  exact ⟨by rw [hfin.out]; rfl,hend.alloc hend.size _⟩
end
section
open Go.RowKit Go.Maps
def zzK (_ : Nat -> Prop) (_ : World) (_ : Row) : Prop:=True
theorem zhH : zjL zzK:=⟨fun h _ _=>h⟩
abbrev zjX:=zaw 213 3 zha zzK
theorem zyB : (Tryz.prog.info? 213).map (fun i=>(i.zero,i.size,i.bytes)) = some (some (.agg #[.int .u8 0,.string ⟨#[]⟩,.string ⟨#[]⟩]),3,40):=by kernel_rfl
theorem zzP {a b c : Value} (ha : a.oneCell' = true) (hb : b.oneCell' = true) (hc : c.oneCell' = true) : ∀ u ∈ [a,b,c],u.oneCell' = true:=by
 intro u hu;rcases List.mem_cons.1 hu with rfl | hu
 ·exact ha
 ·rcases List.mem_cons.1 hu with rfl | hu
  ·exact hb
  ·rw [mS.1 hu]; exact hc
theorem zph (kd : Int) (s : ByteArray) (g1 g2 : Nat) (w : World) (h1 : w.cell? ⟨g1,0,none⟩ = some (.int .u8 kd)) (h2 : w.cell? ⟨g2,0,none⟩ = some (.string s)) (l1 : g1 < w.heap.size) (l2 : g2 < w.heap.size) :
  Calls Tryz.prog 189 #[.agg zM,.func (.func 188) #[] #[.pointer (some ⟨g1,0,none⟩),.pointer (some ⟨g2,0,none⟩)]] w fun e w'=>∃ v,e = .returned v /\ zjX w.heap.size w' v (zaY.filter (zdn kd s)) /\ Below w.heap.size w w':=by
 have hsz:=zeT;obtain ⟨i0,hi0,hz0,hz1,hz2⟩:=info_parts zyB;have hbW : Below w.heap.size w (w.alloc (.cells zM 215)):=(Below.refl _ _).alloc (lQ _) _;go_enter Tryz.func189,Tryz.ntmps189;go_upto_region 2 with fail
 apply wp_region_lit
 refine wpList_load_row rfl 215 (.tmp 2) rfl w.heap.size rfl 215 zM (0,0) _ (Blk.new _ _ _) Tryz.underlying215 rfl ziN ?_;simp only [Act.put,sX,sZ,sS];generalize w.alloc (.cells zM 215) = W at *;go_wp2
 go_loopw [5,9] (fun ov iv wr=>∃ (k : Nat) (l : List Row),k <= 40 /\ iv = .int .i64 k /\ Below w.heap.size w wr /\ zjX w.heap.size wr ov l /\ Hid (l = (zaY.take k).filter (zdn kd s)))
  (fun _ iv _=>40 - (intOf iv).toNat)
 case atStart=>exact ⟨0,[],by omega,rfl,hbW,zaw.nil_,rfl⟩
 case round=>
  obtain ⟨k,l,hk,rfl,hbw,hown,hl⟩:=hrel;rename World=>wr;have n0 : (0 : Int) <= (k : Int):=by omega
  have hll : l.length <= 40:=by rw [hl.out]; exact Nat.le_trans (List.length_filter_le _ _) (by rw [List.length_take]; omega)
  obtain ⟨A3,c3,rfl⟩:=hown.form_;have hown':=Hd hown;clear hown;by_cases hlt : k < 40
  ·have n1 : (k : Int) < 40:=by omega
   have hix:=zhE k hlt
   have htk:=Hd (show (zaY.take (k + 1)).filter (zdn kd s) = (zaY.take k).filter (zdn kd s) ++ (if zdn kd s (zaY.getD k Row.zero) then [zaY.getD k Row.zero] else []) from by
    rw [List.take_succ_eq_append_getElem (show k < zaY.length from hlt),List.filter_append,zD _ _ _ (show k < zaY.length from hlt)];congr 1
    cases h : zdn kd s zaY[k] <;> (simp; exact h))
   rw [<- hl.out] at htk;generalize zaY.getD k Row.zero = r at hix htk;have hup : Below wr.heap.size wr (wr.alloc (.cells #[.int .u8 r.kind,.string r.long,.string r.short] 213)):=(Below.refl _ _).alloc (lQ _) _;have c1:=((hbw.trans (hup.mono hbw.size)).cell (p:=⟨g1,0,none⟩) l1).trans h1;have c2:=((hbw.trans (hup.mono hbw.size)).cell (p:=⟨g2,0,none⟩) l2).trans h2;have hcon:=Hd (zuV kd s g1 g2 r _ c1 c2 (by have:=hbw.size; simp; omega) (by have:=hbw.size; simp; omega));have hj6:=Hd (Blk.new wr 213 #[.int .u8 r.kind,.string r.long,.string r.short]);clear c1 c2;go_wp2_with fail;refine hcon.out.mono ?_;rintro e w2 ⟨rfl,hb2x⟩;have hi6:=Hd (hj6.out.below hb2x (by simp));have hw2 : Below wr.heap.size wr w2:=hup.trans (hb2x.mono hup.size);have z0:=hi6.out.cell 0;have z1:=hi6.out.cell 1;have z2:=hi6.out.cell 2;have hl6:=hi6.out.lt;simp at z0 z1 z2;clear hb2x hcon hup
   cases hkp : zdn kd s r with
   | true=>
    have hmap : Hid (l ++ [r] = (zaY.take (k + 1)).filter (zdn kd s)):=Hd (by rw [htk.out,hkp]; rfl);have hw3 : Below wr.heap.size wr (w2.alloc (.cells #[.int .u8 r.kind,.string r.long,.string r.short] 213)):=hw2.alloc hw2.size _;have hoA:=Hd (hown'.out.keep zhH (zc.of_below hw3 _));have sd1 : l.length + 1 <= maxLen:=by unfold maxLen; omega
    have sd4 : (l.length + 1) * 40 <= 140737488355328:=by omega
    have hs0:=hbw.size;have hs2:=hw2.size;clear hix hkp;go_wp2_with (at_builtin; refine wpList_append_lies _ rfl (.tmp 15) (.tmp 17) 246 rfl w.heap.size 213 i0 (.agg #[.int .u8 0,.string ⟨#[]⟩,.string ⟨#[]⟩]) 3 40 Tryz.underlying246 hi0 hz0 hz1 hz2 rfl (by decide) (.slice A3 l.length c3) l.length (l.flatMap zha) rfl (by exact hoA.out.1) ⟨w2.heap.size,0,none⟩ 1 1 [.int .u8 r.kind,.string r.long,.string r.short] rfl rfl (by exact World.news_of_block (cs:=#[.int .u8 r.kind,.string r.long,.string r.short]) (heap_alloc_new _ _)) (zzP rfl rfl rfl) Nat.one_pos sd1 sd4 (by simp; omega) (w2.heap.size + 1) (by simp) ?_; intro g2 cap2 w3 hown2 hgr2 hat2 hlt2);have hR:=zcZ zhH (a:=r) hbw hown'.out hw3 (lQ _) hbw.size trivial hown2 rfl hgr2 (hat2.imp_right (fun e=>by simp [e]));clear hown2 hgr2 hat2 hlt2;go_roundw
    case rel=>exact ⟨k + 1,l ++ [r],by omega,by go_num,hR.1,by simpa using hR.2,hmap⟩
    case measure=>simp [intOf]; omega
   | false=>
    have hmap : Hid (l = (zaY.take (k + 1)).filter (zdn kd s)):=Hd (by rw [htk.out,hkp]; simp);have hoA:=Hd (hown'.out.keep zhH (zc.of_below hw2 _));have hend:=hbw.trans (hw2.mono hbw.size);clear hix hkp;go_wp2;go_roundw
    case rel=>exact ⟨k + 1,l,by omega,by go_num,hend,hoA.out,hmap⟩
    case measure=>simp [intOf]; omega
  ·obtain rfl : k = 40:=by omega
   have hm : Hid (l = zaY.filter (zdn kd s)):=Hd (by rw [hl.out]; rfl);go_wp2;go_ret;exact ⟨_,rfl,by rw [<- hm.out]; exact hown'.out,hbw⟩
end
section
open Go.RowKit
theorem zyz (v : Value) (l : List ByteArray) (s : ByteArray) (w : World) (h : zan w v l) : Calls Tryz.prog 190 #[v,.string s] w fun e w'=>e = .returned (.bool (zcg s l)) /\ w' = w:=by
 obtain ⟨A,c,rfl,hn,hc,hA⟩:=h;unfold maxLen at hc;have hA':=Hd hA;clear hA;go_enter Tryz.func190,Tryz.ntmps190;go_wp2
 go_loop [9] (fun iv=>∃ k : Nat,k <= l.length /\ iv = .int .i64 k /\ Hid (s ∉ l.take k)) (fun iv=>l.length - (intOf iv).toNat)
 case atStart=>exact ⟨0,by omega,rfl,Hd (by simp)⟩
 case round=>
  obtain ⟨k,hk,rfl,hno⟩:=hrel;have n0 : (0 : Int) <= (k : Int):=by omega
  by_cases hlt : k < l.length
  ·have n1 : (k : Int) < (l.length : Int):=by omega
   obtain ⟨b,off,rfl,hb,hi⟩:=hA'.out (by omega);have g:=(hi k hlt).1
   have hstep:=Hd (show l.getD k ByteArray.empty ≠ s -> s ∉ l.take (k + 1) from fun hne hm=>by
    rw [List.take_succ_eq_append_getElem hlt,List.mem_append] at hm;rcases hm with hm | hm
    ·exact hno.out hm
    ·rw [zD l _ k hlt] at hne
     exact hne (mS.1 hm).symm)
   have hin:=Hd (show l.getD k ByteArray.empty ∈ l from by rw [zD l _ k hlt]; exact List.getElem_mem hlt);clear hi;generalize l.getD k ByteArray.empty = x at g hstep hin;by_cases hx : x = s
   ·subst hx
    have hfin:=Hd (zih.2 hin.out);have b1 : (x.toList == x.toList) = true:=by simp
    go_wp2;go_ret;exact ⟨zf hfin.out.symm,rfl⟩
   ·have b1:=zlI hx
    have hs:=Hd (hstep.out hx);clear hx;go_wp2
    go_round
    case rel=>exact ⟨k + 1,by omega,by go_num,hs⟩
    case measure=>simp [intOf]; omega
  ·have hfin:=Hd (show zcg s l = false from zdg (by have:=hno.out; rwa [List.take_of_length_le (by omega)] at this))
   go_wp2;go_ret;exact ⟨zf hfin.out.symm,rfl⟩
end
section
open Go.RowKit Go.Maps
theorem zaw.base {α : Type} {E : TypeId} {k : Nat} {cells : α -> List Value} {I : (Nat -> Prop) -> World -> α -> Prop} (hI : zjL I) {B B' : Nat} {w : World} {v : Value} {ps : List α} (h : zaw E k cells I B w v ps) (hB : B' <= B) : zaw E k cells I B' w v ps:=by
 refine ⟨⟨h.1.1,?_⟩,fun p hp=>hI.keep (h.2 p hp) ⟨lQ _,fun _ _ _=>rfl⟩ fun b _ hb=>⟨Nat.le_trans hB hb.1,hb.2⟩⟩;rcases h.1.2 with h0 | ⟨g,cap,cur,e,hb,hg⟩
 ·exact .inl h0
 ·exact .inr ⟨g,cap,cur,e,Nat.le_trans hB hb,hg⟩
def zzQ (w : World) (b o : Nat) (r : Row) : Prop:=
 w.cell? ⟨b,o,none⟩ = some (.int .u8 r.kind) /\ w.cell? ⟨b,o + 1,none⟩ = some (.string r.long) /\ w.cell? ⟨b,o + 2,none⟩ = some (.string r.short)
def zzh (w : World) (v : Value) (rs : List Row) : Prop:=Sl w v rs.length fun b off i=>zzQ w b (off + i * 3) (rs.getD i Row.zero)
theorem zjX.rows {base : Nat} {w : World} {v : Value} {rs : List Row} (h : zjX base w v rs) : zzh w v rs:=by
 have hsl:=zaw.sl h (fun _=>rfl)
 exact SlP.plain hsl fun b off i _ _ hi hr=>by
  have h0:=hr.2.2 hi 0 (by omega);have h1:=hr.2.2 hi 1 (by omega);have h2:=hr.2.2 hi 2 (by omega);rw [znm rs Row.zero i hi];exact ⟨by simpa [zha] using h0,by simpa [zha] using h1,by simpa [zha] using h2⟩
theorem zyC : (Tryz.prog.info? 9).map (fun i=>(i.zero,i.size,i.bytes)) = some (some (.string ⟨#[]⟩),1,16):=by kernel_rfl
def zhv (ls : List ByteArray) (r : Row) : List ByteArray:=if zcg r.long ls then ls else ls ++ [r.long]
def zea (rs : List Row) (k : Nat) : List ByteArray:=(rs.take k).foldl zhv []
def zaQ (kd : Int) (s : ByteArray) : List ByteArray:=(zaY.filter (zdn kd s)).foldl zhv []
theorem zgC (rs : List Row) (k : Nat) (h : k < rs.length) : zea rs (k + 1) = zhv (zea rs k) (rs.getD k Row.zero):=by
 unfold zea;rw [List.take_succ_eq_append_getElem h,List.foldl_append,zD _ _ _ h]; rfl
theorem zqw (rs : List Row) (k : Nat) (h : k <= rs.length) : (zea rs k).length <= k:=by
 induction k with
 | zero=>exact lQ _
 | succ k ih=>
  rw [zgC rs k h];have:=ih (by omega);unfold zhv
  split
  ·omega
  ·simp; omega
theorem zwX (p : Row -> Bool) : (zaY.filter p).length <= 40:=Nat.le_trans (List.length_filter_le _ _) (Nat.le_of_eq zps)
theorem zzO {a : Value} (ha : a.oneCell' = true) : ∀ u ∈ [a],u.oneCell' = true:=by
 intro u hu; rw [mS.1 hu]; exact ha
theorem zlc (kd : Int) (s : ByteArray) (w : World) :
  Calls Tryz.prog 147 #[.int .u8 kd,.string s] w fun e w'=>∃ v,e = .returned v /\ zbb w.heap.size w' v (zaQ kd s) /\ Below w.heap.size w w':=by
 obtain ⟨i0,hi0,hz0,hz1,hz2⟩:=info_parts zyC;have hW3 : Below w.heap.size w (((w.alloc (.cells #[.int .u8 kd] 5)).alloc (.cells #[.string s] 9)).alloc (.cells zM 215)):=(((Below.refl _ _).alloc (lQ _) _).alloc (by simp) _).alloc (by simp; omega) _;have b2 : Blk (((w.alloc (.cells #[.int .u8 kd] 5)).alloc (.cells #[.string s] 9)).alloc (.cells zM 215)) w.heap.size 5 #[.int .u8 kd]:=((Blk.new _ _ _).alloc _).alloc _;have b3 : Blk (((w.alloc (.cells #[.int .u8 kd] 5)).alloc (.cells #[.string s] 9)).alloc (.cells zM 215)) (w.heap.size + 1) 9 #[.string s]:=(Blk.new_at _ _ _ _ (by simp)).alloc _;have hcon:=Hd (zph kd s w.heap.size (w.heap.size + 1) _ (b2.cell 0) (b3.cell 0) b2.lt b3.lt);clear b2 b3;go_enter Tryz.func147,Tryz.ntmps147;go_wp2_with fail;refine (znF _).mono ?_;rintro e w1 ⟨rfl,rfl⟩;go_wp2_with fail;refine hcon.out.mono ?_;rintro e w2 ⟨v,rfl,hv,hb2⟩;have hw2 : Below w.heap.size w w2:=hW3.trans (hb2.mono hW3.size);have hrows:=hv.rows;have hlen:=Hd (zwX (zdn kd s));have hlong:=Hd (show ∀ r ∈ zaY.filter (zdn kd s),r.long.size <= maxLen from fun r hr=>by have:=(zmQ r (List.mem_filter.1 hr).1).1; unfold maxLen; omega);have hres:=Hd (show zea (zaY.filter (zdn kd s)) (zaY.filter (zdn kd s)).length = zaQ kd s from by unfold zea zaQ; rw [List.take_length]);clear hcon hb2 hv hW3;generalize zaY.filter (zdn kd s) = rs at *;obtain ⟨A,c,rfl,hn,hc,hA⟩:=hrows;unfold maxLen at hc;have hA':=Hd hA;clear hA;have hs2:=hw2.size;have hl40:=hlen.out;go_wp2
 go_loopw [5,14] (fun ov iv wr=>∃ (k : Nat) (l : List ByteArray),k <= rs.length /\ iv = .int .i64 k /\ Below w2.heap.size w2 wr /\ zbb w2.heap.size wr ov l /\ Hid (l = zea rs k))
  (fun _ iv _=>rs.length - (intOf iv).toNat)
 case atStart=>exact ⟨0,[],by omega,rfl,Below.refl _ _,zaw.nil_,rfl⟩
 case round=>
  obtain ⟨k,l,hk,rfl,hbw,hown,hl⟩:=hrel;rename World=>wr;have n0 : (0 : Int) <= (k : Int):=by omega
  have hll : l.length <= 40:=by rw [hl.out]; exact Nat.le_trans (zqw rs k hk) (by omega)
  obtain ⟨A3,c3,rfl⟩:=hown.form_;have hown':=Hd hown;clear hown;by_cases hlt : k < rs.length
  ·have n1 : (k : Int) < (rs.length : Int):=by omega
   obtain ⟨b,off,rfl,hb,hi⟩:=hA'.out (by omega);have hnx:=Hd (zgC rs k hlt);rw [<- hl.out] at hnx;obtain ⟨g0,g1,g2⟩:=hi k hlt;rw [<- hbw.cell (p:=⟨b,off + k * 3,none⟩) hb] at g0;rw [<- hbw.cell (p:=⟨b,off + k * 3 + 1,none⟩) hb] at g1;rw [<- hbw.cell (p:=⟨b,off + k * 3 + 2,none⟩) hb] at g2;have hlo:=hlong.out (rs.getD k Row.zero) (by rw [zD _ _ _ hlt]; exact List.getElem_mem hlt);clear hi;generalize rs.getD k Row.zero = r at g0 g1 g2 hnx hlo;have hup : Below wr.heap.size wr (wr.alloc (.cells #[.int .u8 r.kind,.string r.long,.string r.short] 213)):=(Below.refl _ _).alloc (lQ _) _;have hcon:=Hd (zyz (.slice A3 l.length c3) l r.long _ (zan.stays hown'.out.texts (zo.of hup)));have hs0:=hbw.size;go_wp2_with fail;refine hcon.out.mono ?_;rintro e w3 ⟨rfl,rfl⟩;clear hcon
   cases hm : zcg r.long l with
   | true=>
    have hmap : Hid (l = zea rs (k + 1)):=Hd (by rw [hnx.out]; unfold zhv; rw [if_pos hm]);have hoA:=Hd (hown'.out.keep zaA (zc.of_below hup _));have hend:=hbw.trans (hup.mono hs0);clear hm;go_wp2;go_roundw
    case rel=>exact ⟨k + 1,l,by omega,by go_num,hend,hoA.out,hmap⟩
    case measure=>simp [intOf]; omega
   | false=>
    have hmap : Hid (l ++ [r.long] = zea rs (k + 1)):=Hd (by rw [hnx.out]; unfold zhv; rw [hm]; rfl);have hw3 : Below wr.heap.size wr ((wr.alloc (.cells #[.int .u8 r.kind,.string r.long,.string r.short] 213)).alloc (.cells #[.string r.long] 9)):=hup.alloc hup.size _;have hoA:=Hd (hown'.out.keep zaA (zc.of_below hw3 _));have sd1 : l.length + 1 <= maxLen:=by unfold maxLen; omega
    have sd4 : (l.length + 1) * 16 <= 140737488355328:=by omega
    clear hm;go_wp2_with (at_builtin; refine wpList_append_lies _ rfl (.tmp 23) (.tmp 26) 77 rfl w2.heap.size 9 i0 (.string ⟨#[]⟩) 1 16 Tryz.underlying77 hi0 hz0 hz1 hz2 rfl (by decide) (.slice A3 l.length c3) l.length (l.flatMap strCells) rfl (by exact hoA.out.1) ⟨wr.heap.size + 1,0,none⟩ 1 1 [.string r.long] rfl rfl (by exact World.news_of_block (cs:=#[.string r.long]) (by rw [show wr.heap.size + 1 = (wr.alloc (.cells #[.int .u8 r.kind,.string r.long,.string r.short] 213)).heap.size from by simp]; exact heap_alloc_new _ _)) (zzO rfl) Nat.one_pos sd1 sd4 (by simp; omega) (wr.heap.size + 2) (by simp) ?_; intro g2 cap2 w3 hown2 hgr2 hat2 hlt2);have hR:=zcZ zaA (a:=r.long) hbw hown'.out hw3 (lQ _) hbw.size hlo hown2 rfl hgr2 (hat2.imp_right (fun e=>by simp [e]));clear hown2 hgr2 hat2 hlt2;go_roundw
    case rel=>exact ⟨k + 1,l ++ [r.long],by omega,by go_num,hR.1,by simpa using hR.2,hmap⟩
    case measure=>simp [intOf]; omega
  ·obtain rfl : k = rs.length:=by omega
   have hm : Hid (l = zaQ kd s):=Hd (by rw [hl.out]; exact hres.out);go_wp2;go_ret;exact ⟨_,rfl,by rw [<- hm.out]; exact hown'.out.base zaA hs2,hw2.trans (hbw.mono hs2)⟩
end
section
open Go.RowKit Go.Maps
def zU (s : ByteArray) (i : Nat) : Nat:=if h : i < s.size then (s[i]'h).toNat else 0
def zaS (s : ByteArray) : Nat -> Nat × List ByteArray
 | 0=>(0,[])
 | i + 1=>if i < s.size /\ zU s i ≠ 32 then zaS s i else (i + 1,if (zaS s i).1 < i then (zaS s i).2 ++ [s.extract (zaS s i).1 i] else (zaS s i).2)
def zdu (s : ByteArray) : List ByteArray:=(zaS s (s.size + 1)).2
theorem ziC (s : ByteArray) : ∀ i,(zaS s i).1 <= i
 | 0=>lQ _
 | i + 1=>by
  have:=ziC s i;unfold zaS
  split
  ·omega
  ·exact lQ _
theorem zlL (s : ByteArray) : ∀ i,(zaS s i).2.length <= i
 | 0=>lQ _
 | i + 1=>by
  have:=zlL s i;unfold zaS
  split
  ·omega
  ·simp only []; split
   ·simp; omega
   ·omega
theorem zpz {s : ByteArray} {i : Nat} (h : i < s.size) (hb : zU s i ≠ 32) : zaS s (i + 1) = zaS s i:=by
 rw [zaS,if_pos ⟨h,hb⟩]
theorem zgc {s : ByteArray} {i : Nat} (h : ¬ (i < s.size /\ zU s i ≠ 32)) : zaS s (i + 1) = (i + 1,if (zaS s i).1 < i then (zaS s i).2 ++ [s.extract (zaS s i).1 i] else (zaS s i).2):=by
 rw [zaS,if_neg h]
theorem zwp (s : ByteArray) (w : World) (hsz : s.size <= 1000000) :
  Calls Tryz.prog 146 #[.string s] w fun e w'=>∃ v,e = .returned v /\ zbb w.heap.size w' v (zdu s) /\ Below w.heap.size w w':=by
 obtain ⟨i0,hi0,hz0,hz1,hz2⟩:=info_parts zyC;go_enter Tryz.func146,Tryz.ntmps146;go_wp2
 go_loopw [3,4,5] (fun ov sv iv wr=>∃ (k st : Nat) (l : List ByteArray),k <= s.size + 1 /\ iv = .int .i64 k /\ sv = .int .i64 st /\ Below w.heap.size w wr /\ zbb w.heap.size wr ov l /\ Hid (zaS s k = (st,l)))
  (fun _ _ iv _=>s.size + 1 - (intOf iv).toNat)
 case atStart=>exact ⟨0,0,[],by omega,rfl,rfl,Below.refl _ _,zaw.nil_,Hd rfl⟩
 case round=>
  obtain ⟨k,st,l,hk,rfl,rfl,hbw,hown,hl⟩:=hrel;rename World=>wr;have n0 : (0 : Int) <= (k : Int):=by omega
  have hll : l.length <= 1000001:=by have:=zlL s k; rw [hl.out] at this; exact Nat.le_trans this (by omega)
  have hst : st <= k:=by have:=ziC s k; rw [hl.out] at this; exact this
  obtain ⟨A3,c3,rfl⟩:=hown.form_;have hown':=Hd hown;clear hown;have hs0:=hbw.size;by_cases hle : k <= s.size
  ·have n1 : (k : Int) <= (s.size : Int):=by omega
   by_cases hlt : k < s.size
   ·have n2 : (k : Int) < (s.size : Int):=by omega
    by_cases h32 : zU s k = 32
    ·have hb : decide (((s[k]'hlt).toNat : Int) = 32) = true:=by unfold zU at h32; rw [dif_pos hlt] at h32; exact decide_eq_true (by omega)
     have hb2 : ((((s[k]'hlt).toNat : Int)) == 32) = true:=by simpa using hb
     have hb3 : ((((s[k]'hlt).toNat : Int)) != 32) = false:=by simpa using hb
     have hcut : Hid (¬ (k < s.size /\ zU s k ≠ 32)):=Hd fun h=>h.2 h32;clear h32;by_cases hw : st < k
     ·have hnx : Hid (zaS s (k + 1) = (k + 1,l ++ [s.extract st k])):=Hd (by rw [zgc hcut.out,hl.out]; simp only []; rw [if_pos hw])
      have n3 : (st : Int) < (k : Int):=by omega
      have n4 : (0 : Int) <= (st : Int):=by omega
      have n5 : (st : Int) <= (k : Int):=by omega
      have hpz : (s.extract st k).size <= maxLen:=by rw [ByteArray.size_extract]; unfold maxLen; omega
      have hup : Below wr.heap.size wr (wr.alloc (.cells #[.string (s.extract st k)] 9)):=(Below.refl _ _).alloc (lQ _) _;have hoA:=Hd (hown'.out.keep zaA (zc.of_below hup _));have sd1 : l.length + 1 <= maxLen:=by unfold maxLen; omega
      have sd4 : (l.length + 1) * 16 <= 140737488355328:=by omega
      go_wp2_with (at_builtin; refine wpList_append_lies _ rfl (.tmp 25) (.tmp 30) 77 rfl w.heap.size 9 i0 (.string ⟨#[]⟩) 1 16 Tryz.underlying77 hi0 hz0 hz1 hz2 rfl (by decide) (.slice A3 l.length c3) l.length (l.flatMap strCells) rfl (by exact hoA.out.1) ⟨wr.heap.size,0,none⟩ 1 1 [.string (s.extract st k)] rfl rfl (by exact World.news_of_block (cs:=#[.string (s.extract st k)]) (heap_alloc_new _ _)) (zzO rfl) Nat.one_pos sd1 sd4 (by simp; omega) (wr.heap.size + 1) (by simp) ?_; intro g2 cap2 w3 hown2 hgr2 hat2 hlt2);have hR:=zcZ zaA (a:=s.extract st k) hbw hown'.out hup (lQ _) hbw.size hpz hown2 rfl hgr2 (hat2.imp_right (fun e=>by simp [e]));clear hown2 hgr2 hat2 hlt2;go_roundw
      case rel=>exact ⟨k + 1,k + 1,l ++ [s.extract st k],by omega,by go_num,by go_num,hR.1,by simpa using hR.2,hnx⟩
      case measure=>simp [intOf]; omega
     ·have hnx : Hid (zaS s (k + 1) = (k + 1,l)):=Hd (by rw [zgc hcut.out,hl.out]; simp only []; rw [if_neg hw])
      obtain rfl : st = k:=by omega
      go_wp2;go_roundw
      case rel=>exact ⟨st + 1,st + 1,l,by omega,by go_num,by go_num,hbw,hown'.out,hnx⟩
      case measure=>simp [intOf]; omega
    ·have hb : decide (((s[k]'hlt).toNat : Int) = 32) = false:=by unfold zU at h32; rw [dif_pos hlt] at h32; exact decide_eq_false (by omega)
     have hb2 : ((((s[k]'hlt).toNat : Int)) == 32) = false:=by simpa using hb
     have hb3 : ((((s[k]'hlt).toNat : Int)) != 32) = true:=by simpa using hb
     have hnx : Hid (zaS s (k + 1) = (st,l)):=Hd (by rw [zpz hlt h32,hl.out]);clear h32;go_wp2;go_roundw
     case rel=>exact ⟨k + 1,st,l,by omega,by go_num,rfl,hbw,hown'.out,hnx⟩
     case measure=>simp [intOf]; omega
   ·obtain rfl : k = s.size:=by omega
    have hcut : Hid (¬ (s.size < s.size /\ zU s s.size ≠ 32)):=Hd fun h=>hlt h.1;by_cases hw : st < s.size
    ·have hnx : Hid (zaS s (s.size + 1) = (s.size + 1,l ++ [s.extract st s.size])):=Hd (by rw [zgc hcut.out,hl.out]; simp only []; rw [if_pos hw])
     have n3 : (st : Int) < (s.size : Int):=by omega
     have n4 : (0 : Int) <= (st : Int):=by omega
     have n5 : (st : Int) <= (s.size : Int):=by omega
     have hpz : (s.extract st s.size).size <= maxLen:=by rw [ByteArray.size_extract]; unfold maxLen; omega
     have hup : Below wr.heap.size wr (wr.alloc (.cells #[.string (s.extract st s.size)] 9)):=(Below.refl _ _).alloc (lQ _) _;have hoA:=Hd (hown'.out.keep zaA (zc.of_below hup _));have sd1 : l.length + 1 <= maxLen:=by unfold maxLen; omega
     have sd4 : (l.length + 1) * 16 <= 140737488355328:=by omega
     go_wp2_with (at_builtin; refine wpList_append_lies _ rfl (.tmp 25) (.tmp 30) 77 rfl w.heap.size 9 i0 (.string ⟨#[]⟩) 1 16 Tryz.underlying77 hi0 hz0 hz1 hz2 rfl (by decide) (.slice A3 l.length c3) l.length (l.flatMap strCells) rfl (by exact hoA.out.1) ⟨wr.heap.size,0,none⟩ 1 1 [.string (s.extract st s.size)] rfl rfl (by exact World.news_of_block (cs:=#[.string (s.extract st s.size)]) (heap_alloc_new _ _)) (zzO rfl) Nat.one_pos sd1 sd4 (by simp; omega) (wr.heap.size + 1) (by simp) ?_; intro g2 cap2 w3 hown2 hgr2 hat2 hlt2);have hR:=zcZ zaA (a:=s.extract st s.size) hbw hown'.out hup (lQ _) hbw.size hpz hown2 rfl hgr2 (hat2.imp_right (fun e=>by simp [e]));clear hown2 hgr2 hat2 hlt2;go_roundw
     case rel=>exact ⟨s.size + 1,s.size + 1,l ++ [s.extract st s.size],by omega,by go_num,by go_num,hR.1,by simpa using hR.2,hnx⟩
     case measure=>simp [intOf]
    ·have hnx : Hid (zaS s (s.size + 1) = (s.size + 1,l)):=Hd (by rw [zgc hcut.out,hl.out]; simp only []; rw [if_neg hw])
     obtain rfl : st = s.size:=by omega
     go_wp2;go_roundw
     case rel=>exact ⟨s.size + 1,s.size + 1,l,by omega,by go_num,by go_num,hbw,hown'.out,hnx⟩
     case measure=>simp [intOf]
  ·obtain rfl : k = s.size + 1:=by omega
   have hm : Hid (l = zdu s):=Hd (by unfold zdu; rw [hl.out]);go_wp2;go_ret;exact ⟨_,rfl,by rw [<- hm.out]; exact hown'.out,hbw⟩
end
section
open Go.RowKit Go.Maps
theorem znt (c : Int) (w : World) : Calls Tryz.prog 217 #[.int .u8 32,.int .u8 c] w fun e w'=>e = .returned (.string ⟨#[]⟩) /\ w' = w:=by
 go_enter Tryz.func217,Tryz.ntmps217;go_wp2;go_ret;exact ⟨rfl,rfl⟩
def zvE (b : Nat) : Prop:=(65 <= b /\ b <= 90) \/ (48 <= b /\ b <= 57) \/ b = 45 \/ b = 47
def zuk (s : ByteArray) (i : Nat) : ByteArray:=if zU s i = 32 then ⟨#[]⟩ else s.extract i (i + 1)
theorem zpP (s : ByteArray) (i : Nat) (hi : i < s.size) (g : Nat) (w : World) (hsz : s.size <= 1000000) (hc : w.cell? ⟨g,0,none⟩ = some (.string s)) (hcls : zvE (zU s i) \/ zU s i = 32) :
  Calls Tryz.prog 216 #[.int .i64 i,.pointer (some ⟨g,0,none⟩)] w fun e w'=>e = .returned (.tuple #[.string (zuk s i),.int .i64 1]) /\ w' = w:=by
 have hbt : zU s i = (s[i]'hi).toNat:=by unfold zU; rw [dif_pos hi]
 have n0 : (0 : Int) <= (i : Int):=by omega
 have n1 : (i : Int) < (s.size : Int):=by omega
 have n2 : (i : Int) <= (i : Int) + 1:=by omega
 have n3 : (i : Int) + 1 <= (s.size : Int):=by omega
 have hto : ((i : Int) + 1).toNat = i + 1:=by omega
 have hsp:=Hd (znt);by_cases h32 : zU s i = 32
 ·have hfin:=Hd (show zuk s i = ⟨#[]⟩ from if_pos h32)
  rw [hbt] at h32;have e32 : ((s[i]'hi).toNat : Int) = 32:=by omega
  clear hcls hbt h32;by_cases hl : i + 1 < s.size
  ·have n4 : (i : Int) + 1 < (s.size : Int):=by omega
   have hl2:=hl;go_enter Tryz.func216,Tryz.ntmps216;go_wp2_with (simp only [e32]);refine (hsp.out _ _).mono ?_;rintro e w' ⟨rfl,rfl⟩;go_wp2
   go_ret2
   exact ⟨by rw [hfin.out]; rfl,rfl⟩
  ·have n4 : ¬ ((i : Int) + 1 < (s.size : Int)):=by omega
   go_enter Tryz.func216,Tryz.ntmps216;go_wp2_with (simp only [e32])
   go_ret2
   exact ⟨by rw [hfin.out]; rfl,rfl⟩
 ·have hfin:=Hd (show zuk s i = s.extract i (i + 1) from if_neg h32)
  have hcl:=hcls.resolve_right h32;rw [hbt] at hcl;clear hcls h32 hbt;rcases hcl with ⟨q1,q2⟩ | ⟨q1,q2⟩ | q | q
  ·have b1 : decide (65 <= ((s[i]'hi).toNat : Int)) = true:=by simp; omega
   have b2 : decide (((s[i]'hi).toNat : Int) <= 90) = true:=by simp; omega
   clear q1 q2;go_enter Tryz.func216,Tryz.ntmps216;go_wp2
   go_ret2
   exact ⟨by rw [hfin.out]; rfl,rfl⟩
  ·have b1 : decide (65 <= ((s[i]'hi).toNat : Int)) = false:=by simp; omega
   have b2 : decide (48 <= ((s[i]'hi).toNat : Int)) = true:=by simp; omega
   have b3 : decide (((s[i]'hi).toNat : Int) <= 57) = true:=by simp; omega
   clear q1 q2;go_enter Tryz.func216,Tryz.ntmps216;go_wp2
   go_ret2
   exact ⟨by rw [hfin.out]; rfl,rfl⟩
  ·have b1 : ((s[i]'hi).toNat : Int) = 45:=by omega
   clear q;go_enter Tryz.func216,Tryz.ntmps216;go_wp2_with (simp only [b1])
   go_ret2
   exact ⟨by rw [hfin.out]; rfl,rfl⟩
  ·have b1 : ((s[i]'hi).toNat : Int) = 47:=by omega
   clear q;go_enter Tryz.func216,Tryz.ntmps216;go_wp2_with (simp only [b1])
   go_ret2
   exact ⟨by rw [hfin.out]; rfl,rfl⟩
end
end Go.Proofs.YtggimnndflkjkaaGreatDoor
