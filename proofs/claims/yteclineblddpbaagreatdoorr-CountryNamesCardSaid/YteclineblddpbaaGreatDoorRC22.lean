import Derived.Test.YteclineblddpbaaGreatDoorRC01
import Derived.Test.YteclineblddpbaaGreatDoorRC20
set_option linter.all false
set_option maxRecDepth 100000
set_option maxHeartbeats 0
namespace Go.Proofs.YteclineblddpbaaGreatDoorR
section
open Go Go.RowKit Go.Maps
def chartCells (tv bv ev : Value) (S R : Nat) : Array Value:=#[tv,.slice none 0 0,.slice none 0 0,.slice none 0 0,.slice none 0 0,.slice none 0 0,.slice none 0 0,.slice none 0 0,.slice none 0 0,.slice none 0 0,.slice none 0 0,.slice none 0 0,.slice none 0 0,.slice none 0 0,.slice none 0 0,.slice none 0 0,.slice none 0 0,.slice none 0 0,.slice none 0 0,.slice none 0 0,.slice none 0 0,.slice none 0 0,.slice none 0 0,.slice none 0 0,.slice none 0 0,.slice none 0 0,.slice none 0 0,.slice none 0 0,.slice none 0 0,.slice none 0 0,.slice none 0 0,.slice none 0 0,.slice none 0 0,.slice none 0 0,.slice none 0 0,.slice none 0 0,.slice none 0 0,.slice none 0 0,.slice none 0 0,.slice none 0 0,.slice none 0 0,.slice none 0 0,.slice none 0 0,.slice none 0 0,.slice none 0 0,.slice none 0 0,.slice none 0 0,.slice none 0 0,.slice none 0 0,.slice none 0 0,.slice none 0 0,.slice none 0 0,.slice none 0 0,.slice none 0 0,.slice none 0 0,.slice none 0 0,.slice none 0 0,.slice none 0 0,.slice none 0 0,.slice none 0 0,.slice none 0 0,.slice none 0 0,.slice none 0 0,.slice none 0 0,.slice none 0 0,bv,ev,.map (some S),.map (some R)]
theorem built247 (A : Option Addr) (n c : Nat) (A2 : Option Addr) (n2 c2 : Nat) (A3 : Option Addr) (n3 c3 : Nat) (S R : Nat) :
  Tryz.prog.built 247 [(0,.slice A n c),(2,.slice A2 n2 c2),(3,.slice A3 n3 c3),(4,.map (some S)),(5,.map (some R))] = some (chartCells (.slice A n c) (.slice A2 n2 c2) (.slice A3 n3 c3) S R):=by kernel_rfl
theorem chartC_new {w : World} {C : Nat} {tv bv ev : Value} {S R : Nat} (h : Blk w C 247 (chartCells tv bv ev S R)) : ChartC w C tv bv ev S R (fun _=>.slice none 0 0):=by
 refine ⟨_,h,rfl,rfl,fun s hs=>?_,rfl,rfl,rfl,rfl⟩
 have : ∀ s : Nat,s < 64 -> (chartCells tv bv ev S R)[1 + s]? = some (.slice none 0 0)
  | 0,_=>rfl
  | 1,_=>rfl
  | 2,_=>rfl
  | 3,_=>rfl
  | 4,_=>rfl
  | 5,_=>rfl
  | 6,_=>rfl
  | 7,_=>rfl
  | 8,_=>rfl
  | 9,_=>rfl
  | 10,_=>rfl
  | 11,_=>rfl
  | 12,_=>rfl
  | 13,_=>rfl
  | 14,_=>rfl
  | 15,_=>rfl
  | 16,_=>rfl
  | 17,_=>rfl
  | 18,_=>rfl
  | 19,_=>rfl
  | 20,_=>rfl
  | 21,_=>rfl
  | 22,_=>rfl
  | 23,_=>rfl
  | 24,_=>rfl
  | 25,_=>rfl
  | 26,_=>rfl
  | 27,_=>rfl
  | 28,_=>rfl
  | 29,_=>rfl
  | 30,_=>rfl
  | 31,_=>rfl
  | 32,_=>rfl
  | 33,_=>rfl
  | 34,_=>rfl
  | 35,_=>rfl
  | 36,_=>rfl
  | 37,_=>rfl
  | 38,_=>rfl
  | 39,_=>rfl
  | 40,_=>rfl
  | 41,_=>rfl
  | 42,_=>rfl
  | 43,_=>rfl
  | 44,_=>rfl
  | 45,_=>rfl
  | 46,_=>rfl
  | 47,_=>rfl
  | 48,_=>rfl
  | 49,_=>rfl
  | 50,_=>rfl
  | 51,_=>rfl
  | 52,_=>rfl
  | 53,_=>rfl
  | 54,_=>rfl
  | 55,_=>rfl
  | 56,_=>rfl
  | 57,_=>rfl
  | 58,_=>rfl
  | 59,_=>rfl
  | 60,_=>rfl
  | 61,_=>rfl
  | 62,_=>rfl
  | 63,_=>rfl
  | n + 64,h=>absurd h (by omega)
 exact this s hs
theorem info3 : (Tryz.prog.info? 3).map (fun i=>(i.zero,i.size,i.bytes)) = some (some (.int .i64 0),1,8):=by kernel_rfl
theorem info243 : (Tryz.prog.info? 243).map (fun i=>(i.zero,i.size,i.bytes)) = some (some (.agg #[.int .u16 0,.int .i64 0,.int .i64 0,.int .i64 0]),4,32):=by kernel_rfl
theorem make_ints (n : Nat) (hn : n <= 1000000) (w : World) : (Instr.makeSlice 141 (.int .i64 (n : Int)) (.int .i64 (n : Int))).run Tryz.prog w = .ok (.slice (some ⟨w.heap.size,0,none⟩) n n) (w.alloc (.cells (madeCells #[.int .i64 0] n) 3)):=by
 obtain ⟨i0,hi0,hz0,hz1,hz2⟩:=info_parts info3
 have:=run_make (P:=Tryz.prog) w 141 3 i0 _ Tryz.underlying141 hi0 hz0 .i64 .i64 (n : Int) (n : Int) (by omega) (by omega) (by rw [hz2]; omega) (by omega)
 rw [this,hz1]
 simp [Value.cells]
theorem made_ints (n : Nat) : madeCells #[.int .i64 0] n = ((List.replicate n 0).map fun n : Nat=>Value.int .i64 (n : Int)).toArray:=by
 apply Array.ext'
 unfold madeCells
 simp [List.map_replicate]
 apply List.ext_getElem
 ·simp
 ·intro i h1 h2
  simp [Nat.mod_one]
theorem Blk.ne_row {w : World} {b : Nat} {t : TypeId} {cs : Array Value} {base e k n : Nat} {v : Value} {xs : List Value} (h : Blk w b t cs) (hr : w.ownsRow base e k v n xs) (he : e ≠ t) : v.ownBlock ≠ some b:=by
 intro ho
 rcases hr.2 with ⟨rfl,_⟩ | ⟨g,cap,cur,rfl,_,hg,_⟩
 ·cases ho
 ·simp only [Value.ownBlock,Option.some.injEq] at ho
  subst ho
  rw [show w.heap[g]? = _ from h] at hg
  simp only [Option.some.injEq,Obj.cells.injEq] at hg
  exact he hg.2.1.symm
theorem row_below {w w' : World} {base e k n : Nat} {v : Value} {xs : List Value} (h : w.ownsRow base e k v n xs) (hb : Below w.heap.size w w') : w'.ownsRow base e k v n xs:=
 ⟨h.1,h.2.imp id fun ⟨g,cap,cur,e1,hb',hg,h1⟩=>⟨g,cap,cur,e1,hb',(hb.block g (heap_lt hg)).trans hg,h1⟩⟩
theorem grown_below {w w1 w2 : World} {row : Option Nat} (h : w.grownBy w1 row) (hb : Below w1.heap.size w1 w2) : w.grownBy w2 row:=
 ⟨hb.os.trans h.os,hb.tape.trans h.tape,hb.output.trans h.output,Nat.le_trans h.size hb.size,fun i hi hn=>(hb.block i (Nat.lt_of_lt_of_le hi h.size)).trans (h.block i hi hn)⟩
theorem newChart_any (gv : Value) (At : Option Addr) (tn tc : Nat) (g : List PRule) (w : World) (hg : RulesP (fun _=>True) w gv g) (hgl : g.length <= 200) (hr : ∀ r,r < g.length -> (ruleOf g r).length <= 8 /\ (g.getD r PRule.zero).left < 64 /\ ∀ i ∈ ruleOf g r,i.cls < 65536 /\ i.sym < 64) :
    Calls Tryz.prog 113 #[gv,.slice At tn tc] w fun e w'=>∃ B C S R N Bg E M bg rv ev,e = .returned (.pointer (some ⟨C,0,none⟩)) /\ NewC w B C S R N Bg (.slice At tn tc) g g.length g.length E (E.length - 1) M bg rv ev w' /\ E.length <= 1 + 8 * g.length:=by
  obtain ⟨A0,c0,rfl,hn0,hcm0,hA0⟩:=hg
  unfold maxLen at hcm0
  have hA0:=Hd hA0
  have hmk:=make_ints g.length (by omega) w
  have hmm:=@run_makeMap Tryz.prog
  go_enter Tryz.func113,Tryz.ntmps113
  go_upto_region 1 with fail
  apply wp_region_lit
  iterate 24 go_step
  refine wpList_buildTo rfl 247 #[(0,.tmp 14),(2,.tmp 17),(3,.tmp 19),(4,.tmp 20),(5,.tmp 21)] rfl (some 22) rfl (chartCells (.slice At tn tc) (.slice (some ⟨w.heap.size,0,none⟩) g.length g.length) (.slice (some ⟨w.heap.size + 1,0,none⟩) 1 1) (w.heap.size + 1 + 1) (w.heap.size + 1 + 1 + 1)) ?hbl ?_
  case hbl=>
    simp only [List.map_toArray,List.map_cons,List.map_nil,Act.eval,Array.getD,List.size_toArray,List.length_cons,List.length_nil,Nat.reduceAdd,Nat.reduceLT,dite_true,gX,gQ,gZ]
    exact built247 At tn tc (some ⟨w.heap.size,0,none⟩) g.length g.length (some ⟨w.heap.size + 1,0,none⟩) 1 1 (w.heap.size + 1 + 1) (w.heap.size + 1 + 1 + 1)
  simp only [Act.put,sX,sS,sZ]
  obtain ⟨Wa,hWa⟩ : ∃ Wa,Wa = w.alloc (.cells (madeCells #[.int .i64 0] g.length) 3):=⟨_,rfl⟩
  have hsa : Wa.heap.size = w.heap.size + 1:=by rw [hWa]; simp
  have kBg:=Blk.new w 3 (madeCells #[.int .i64 0] g.length)
  rw [<- hWa] at kBg ⊢
  obtain ⟨Wb,hWb⟩ : ∃ Wb,Wb = Wa.alloc (.cells #[.int .u16 0,.int .i64 0,.int .i64 0,.int .i64 0] 243):=⟨_,rfl⟩
  have hsb : Wb.heap.size = w.heap.size + 1 + 1:=by rw [hWb]; simp; omega
  have kE:=Blk.new Wa 243 #[.int .u16 0,.int .i64 0,.int .i64 0,.int .i64 0]
  rw [<- hWb] at kE ⊢
  have kBg2 : Blk Wb w.heap.size 3 (madeCells #[.int .i64 0] g.length):=by rw [hWb]; exact kBg.alloc _
  obtain ⟨Wc,hWc⟩ : ∃ Wc,Wc = Wb.alloc (.map #[] 0):=⟨_,rfl⟩
  have hsc : Wc.heap.size = w.heap.size + 1 + 1 + 1:=by rw [hWc]; simp; omega
  have mS:=MapV.made Tryz.prog 268 encSpan (fun v : Value=>v) Wb
  rw [<- hWc] at mS ⊢
  obtain ⟨Wd,hWd⟩ : ∃ Wd,Wd = Wc.alloc (.map #[] 0):=⟨_,rfl⟩
  have hsd : Wd.heap.size = w.heap.size + 1 + 1 + 1 + 1:=by rw [hWd]; simp; omega
  have mR:=MapV.made Tryz.prog 268 encSpan (fun v : Value=>v) Wc
  rw [<- hWd] at mR ⊢
  iterate 6 go_step
  obtain ⟨We,hWe⟩ : ∃ We,We = Wd.alloc (.cells (chartCells (.slice At tn tc) (.slice (some ⟨w.heap.size,0,none⟩) g.length g.length) (.slice (some ⟨w.heap.size + 1,0,none⟩) 1 1) (w.heap.size + 1 + 1) (w.heap.size + 1 + 1 + 1)) 247):=⟨_,rfl⟩
  have hse : We.heap.size = w.heap.size + 1 + 1 + 1 + 1 + 1:=by rw [hWe]; simp; omega
  have kC:=Blk.new Wd 247 (chartCells (.slice At tn tc) (.slice (some ⟨w.heap.size,0,none⟩) g.length g.length) (.slice (some ⟨w.heap.size + 1,0,none⟩) 1 1) (w.heap.size + 1 + 1) (w.heap.size + 1 + 1 + 1))
  rw [<- hWe] at kC
  rw [<- hWa,<- hWb,<- hWc,<- hWd,<- hWe]
  obtain ⟨Wf,hWf⟩ : ∃ Wf,Wf = We.alloc (.map #[] 0):=⟨_,rfl⟩
  have hsf : Wf.heap.size = w.heap.size + 1 + 1 + 1 + 1 + 1 + 1:=by rw [hWf]; simp; omega
  have mN:=MapV.made Tryz.prog 243 encEnd (fun n : Nat=>Value.int .i64 (n : Int)) We
  rw [<- hWf] at mN
  have hbf : Hid (Below w.heap.size w Wf):=Hd (by
    rw [hWf,hWe,hWd,hWc,hWb,hWa]
    exact ((((((Below.refl _ w).alloc (lQ _) _).alloc (by simp) _).alloc (by simp; omega) _).alloc (by simp; omega) _).alloc (by simp; omega) _).alloc (by simp; omega) _)
  have kB6 : Blk Wf w.heap.size 3 (madeCells #[.int .i64 0] g.length):=by rw [hWf,hWe,hWd,hWc]; exact (((kBg2.alloc _).alloc _).alloc _).alloc _
  have kE6 : Blk Wf Wa.heap.size 243 #[.int .u16 0,.int .i64 0,.int .i64 0,.int .i64 0]:=by rw [hWf,hWe,hWd,hWc]; exact (((kE.alloc _).alloc _).alloc _).alloc _
  have mS6 : MapS Wf Wb.heap.size 0 []:=by rw [hWf,hWe,hWd]; exact ((mS.alloc _).alloc _).alloc _
  have mR6 : MapS Wf Wc.heap.size 0 []:=by rw [hWf,hWe]; exact (mR.alloc _).alloc _
  have kC6:=kC.alloc (.map #[] 0)
  rw [<- hWf] at kC6
  rw [hsa] at kE6
  rw [hsb] at mS6
  rw [hsc] at mR6
  rw [hsd] at kC6
  rw [hse] at mN
  have h0 : Hid (NewC w Wf.heap.size (w.heap.size + 1 + 1 + 1 + 1) (w.heap.size + 1 + 1) (w.heap.size + 1 + 1 + 1) (w.heap.size + 1 + 1 + 1 + 1 + 1) w.heap.size (.slice At tn tc) g 0 0 [PEnd.zero] 0 [] (List.replicate g.length 0) (fun _=>.slice none 0 0) (.slice (some ⟨w.heap.size + 1,0,none⟩) 1 1) Wf):=Hd {
    chart:=chartC_new kC6
    rules:=⟨fun s hs=>OwnL.nil_,fun s s' _ _ _ h e=>by cases e⟩
    ends:=⟨⟨rfl,.inr ⟨_,1,_,rfl,by omega,kE6,lQ _,by unfold maxLen; omega,rfl,rfl⟩⟩,fun _ _=>trivial⟩
    endsF:=fun b hb=>by
      simp only [Value.ownBlock,Option.some.injEq] at hb
      subst hb
      exact ⟨by omega,by omega,by omega,by omega,by omega,fun s _ e=>by cases e⟩
    nums:=mN
    numOK:=fun e n h=>by cases h
    begs:=by
      have e : madeCells #[.int .i64 0] g.length = ((List.replicate g.length 0).map fun n : Nat=>Value.int .i64 (n : Int)).toArray:=made_ints g.length
      rw [<- e]; exact kB6
    blen:=by simp
    chn:=fun r hr=>absurd hr (by omega)
    e0:=⟨by simp,rfl⟩
    mS:=mS6
    mR:=mR6
    below:=hbf.out
    ge:=⟨by omega,by omega,by omega,by omega,by omega⟩
    lt:=by rw [hsf]; exact ⟨by omega,by omega,by omega,by omega,by omega⟩
    Bge:=⟨by omega,lQ _⟩
    ne:=⟨by omega,by omega,by omega,by omega,by omega,by omega,by omega,by omega,by omega,by omega⟩ }
  clear kC6 mR6 mS6 kE6 kB6 mN kC mR mS kBg2 kE kBg
  replace hWf:=Hd hWf
  clear hWe hWd hWc hWb hWa hsa hsb hsc hsd
  replace hse:=Hd hse
  replace hsf:=Hd hsf
  go_wp2_with fail
  rw [<- hWf.out,hse.out]
  clear hWf hse hsf
  generalize w.heap.size + 1 + 1 + 1 + 1 + 1 = N at h0 ⊢
  generalize w.heap.size + 1 + 1 + 1 + 1 = C at h0 ⊢
  generalize w.heap.size + 1 + 1 + 1 = R at h0 ⊢
  generalize w.heap.size + 1 + 1 = S at h0 ⊢
  generalize w.heap.size + 1 = EB at h0 ⊢
  obtain ⟨Bg,hBg⟩ : ∃ Bg,Bg = w.heap.size:=⟨_,rfl⟩
  have h0' : Hid (NewC w Wf.heap.size C S R N Bg (.slice At tn tc) g 0 0 [PEnd.zero] 0 [] (List.replicate g.length 0) (fun _=>.slice none 0 0) (.slice (some ⟨EB,0,none⟩) 1 1) Wf):=Hd (by rw [hBg]; exact h0.out)
  clear h0
  rw [<- hBg]
  clear hBg
  generalize chartCells (.slice At tn tc) (.slice (some ⟨Bg,0,none⟩) g.length g.length) (.slice (some ⟨EB,0,none⟩) 1 1) S R = CC
  obtain ⟨B,hB⟩ : ∃ B,B = Wf.heap.size:=⟨_,rfl⟩
  rw [<- hB] at h0'
  replace hB:=Hd hB
  clear hmk hmm
  obtain ⟨i3,hi3,h3z0,h3z1,h3z2⟩:=info_parts info3
  obtain ⟨iE,hiE,hEz0,hEz1,hEz2⟩:=info_parts info243
  replace hr:=Hd hr
  go_loopw [27] (fun iv wr=>∃ (k : Nat) (E : List PEnd) (M : List (PEnd × Nat)) (bg : List Nat) (rv : Nat -> Value) (ev : Value),k <= g.length /\ iv = .int .i64 k /\ Hid (NewC w B C S R N Bg (.slice At tn tc) g k k E (E.length - 1) M bg rv ev wr) /\ Hid (E.length <= 1 + 8 * k)) (fun iv _=>g.length - (intOf iv).toNat)
  case atStart=>exact ⟨0,_,_,_,_,_,by omega,rfl,h0',Hd (lQ _)⟩
  case round=>
    obtain ⟨k,E,M,bg,rv,ev,hk,rfl,hnc,hel⟩:=hrel
    rename World=>wr
    clear h0'
    have n0 : (0 : Int) <= (k : Int):=by omega
    by_cases hlt : k < g.length
    · have n1 : (k : Int) < (g.length : Int):=by omega
      obtain ⟨b0,off0,rfl,hb0,_,hi0⟩:=hA0.out (by omega)
      obtain ⟨hc0,iv,hc1,hiv⟩:=hi0 k hlt
      have hrk:=hr.out k hlt
      have hsy:=Hd (symTo_succ g)
      have hrul : Hid (ruleOf g k = (g.getD k PRule.zero).right):=Hd rfl
      rw [hrul.out] at hrk
      have hleft : Hid ((g.getD k PRule.zero).left = (g.getD k PRule.zero).left):=Hd rfl
      obtain ⟨L,hL⟩ : ∃ L,(g.getD k PRule.zero).left = L:=⟨_,rfl⟩
      obtain ⟨its,hits⟩ : ∃ its,(g.getD k PRule.zero).right = its:=⟨_,rfl⟩
      rw [hL] at hc0 hrk
      rw [hits] at hiv hrk hrul
      replace hL:=Hd hL
      clear hits hleft
      have hbr:=hnc.out.below
      have d0:=(hbr.cell (p:=⟨b0,off0 + k * 2,none⟩) (cell_lt hc0)).trans hc0
      have d1:=(hbr.cell (p:=⟨b0,off0 + k * 2 + 1,none⟩) (cell_lt hc1)).trans hc1
      obtain ⟨Ai,ci,rfl⟩ : ∃ A c,iv = .slice A its.length c:=by obtain ⟨A,c,e,_⟩:=hiv; exact ⟨A,c,e⟩
      replace hiv:=Hd hiv
      clear hc0 hc1 hbr
      obtain ⟨hits8,hL64,hitB⟩:=hrk
      replace hitB:=Hd hitB
      go_upto_region 6 with fail
      obtain ⟨w1,hw1⟩ : ∃ w1,w1 = wr.alloc (.cells #[.int .i64 (L : Int),.slice Ai its.length ci] 74):=⟨_,rfl⟩
      have kR1:=Blk.new wr 74 #[.int .i64 (L : Int),.slice Ai its.length ci]
      have hbw1 : Below wr.heap.size wr w1:=by rw [hw1]; exact (Below.refl _ _).alloc (lQ _) _
      have hn1:=Hd (hnc.out.keep hbw1)
      have hBR : Hid (B <= wr.heap.size):=Hd hnc.out.Bge.2
      rw [<- hw1] at kR1 ⊢
      clear hw1 hbw1 hnc d0 d1
      obtain ⟨RB,hRB⟩ : ∃ RB,RB = wr.heap.size:=⟨_,rfl⟩
      rw [<- hRB] at kR1 hBR ⊢
      clear hRB
      replace kR1:=Hd kR1
      obtain ⟨A2,c2,hrv⟩:=(hn1.out.rules.own L hL64).form_
      have hcl : Hid (∀ w2,Below w1.heap.size w1 w2 -> w2.cell? ⟨C,1 + L,none⟩ = some (.slice A2 (symTo g L k).length c2)):=Hd (fun w2 h2=>by
        have:=hn1.out.chart.cell_rule hL64
        rw [<- hrv]
        exact (h2.cell (p:=⟨C,1 + L,none⟩) hn1.out.chart.lt).trans this)
      replace hrv:=Hd hrv
      generalize hsl : (symTo g L k).length = sl at *
      refine wp_region_flow (C:=fun w2=>Blk w2 RB 74 #[.int .i64 (L : Int),.slice Ai its.length ci] /\ w2.cell? ⟨C,1 + L,none⟩ = some (.slice A2 sl c2)) [true,true,true,true,true,true,true,true,true,true,true,false,false,true,true,false] [11,12,15] _ (by kernel_rfl) (by kernel_rfl) (by kernel_rfl) rfl (by rfl) (by kernel_rfl)
        (fun w2 hb=>⟨kR1.out.below hb kR1.out.lt,hcl.out w2 hb⟩) ?A1 ?q1 ?t1
      case q1=>
        intro S' hS hSC hne
        have y0:=fun (u : UpsC S')=>(hSC u.wld u.mem).1.cell 0
        have y1:=fun (u : UpsC S')=>(hSC u.wld u.mem).2
        simp at y0
        have nL0 : (0 : Int) <= (L : Int):=by omega
        have nL1 : (L : Int) < 64:=by omega
        simp only [pickB,if_true,if_false,Bool.false_eq_true]
        repeat (go_big_quiet_step (fail))
        refine wpQuiet_nil ?_
        rfl
      simp only [pickB,if_true,if_false,Bool.false_eq_true,Bool.true_eq_false]
      have sl8 : sl <= 200:=by
        rw [<- hsl]
        exact Nat.le_trans (symTo_len g L k) (by omega)
      have hB3 : Hid (∀ w2,Below w1.heap.size w1 w2 -> NewC w B C S R N Bg (.slice At tn tc) g k k E (E.length - 1) M bg rv ev w2):=Hd fun w2 h=>hn1.out.keep h
      refine mkL_cons rfl fun w3 hb3 Q' hQ'=>?_
      go_wp2_with fail
      have hb4:=(hb3.alloc hb3.size (.cells #[.int .i64 (k : Int)] 3))
      have kX:=Blk.new w3 3 #[.int .i64 (k : Int)]
      refine hQ' _ _ rfl (fun w5 hb5=>⟨kR1.out.below (hb4.trans (hb5.mono hb4.size)) kR1.out.lt,hcl.out w5 (hb4.trans (hb5.mono hb4.size))⟩) ?_
      clear hQ'
      refine mkL_cons rfl fun w5 hb5 Q' hQ'=>?_
      have hn5:=hB3.out w5 (hb4.trans (hb5.mono hb4.size))
      have hrow:=(hn5.rules.own L hL64).1
      rw [hrv.out,hsl] at hrow
      have kX5:=kX.below hb5 kX.lt
      have hb5':=Hd (hb4.trans (hb5.mono hb4.size))
      have hn5':=Hd hn5
      have hrow':=Hd hrow
      have sd1 : sl + 1 <= maxLen:=by unfold maxLen; omega
      have sd4 : (sl + 1) * 8 <= 140737488355328:=by omega
      clear hb4 hb5 hn5 hrow
      generalize w3.heap.size = XB at *
      (refine wpList_append_lies _ rfl (.tmp 41) (.tmp 43) 141 rfl B 3 i3 (.int .i64 0) 1 8 Tryz.underlying141 hi3 h3z0 h3z1 h3z2 rfl (by decide) (.slice A2 sl c2) sl ((symTo g L k).flatMap natCells) rfl (by exact hrow'.out) ⟨XB,0,none⟩ 1 1 [.int .i64 (k : Int)] rfl rfl (by exact World.news_of_block (cs:=#[.int .i64 (k : Int)]) kX5) (by intro u hu; rw [mS.1 hu]; rfl) Nat.one_pos sd1 sd4 hn5'.out.Bge.2 w5.heap.size rfl ?_; intro g9 cap9 w9 hown9 hgr9 hat9 hlt9)
      have hRr : (Value.slice A2 sl c2).ownBlock ≠ some RB:=(kR1.out.below hb5'.out kR1.out.lt).ne_row hrow'.out (by decide)
      have hRB9:=Hd ((kR1.out.below hb5'.out kR1.out.lt).grown hgr9 (fun e=>hRr e.symm))
      have hBl : ∀ b,(Value.slice A2 sl c2).ownBlock = some b -> B <= b:=fun b e=>(hrow'.out.lt b e).1
      have hCl : Hid (w9.cell? ⟨C,1 + L,none⟩ = some (.slice A2 sl c2) /\ C < w9.heap.size):=Hd (by
        have h1:=hn5'.out.lt.1
        have h2:=hn5'.out.Bge.2
        refine ⟨(hgr9.cell (hcl.out w5 hb5'.out) (fun e=>?_)),by have:=hgr9.size; omega⟩
        have:=hBl _ e.symm
        simp only at this
        omega)
      have hown9':=Hd hown9
      have hgr9':=Hd hgr9
      have hat9':=Hd hat9
      clear hown9 hgr9 hat9 hRr hBl kX5 kX
      apply wpList_nil
      refine hQ' _ _ rfl (fun w10 hb10=>⟨hRB9.out.below hb10 hRB9.out.lt,(hb10.cell (p:=⟨C,1 + L,none⟩) hCl.out.2).trans hCl.out.1⟩) ?_
      clear hQ'
      refine mkL_cons rfl fun w10 hb10 Q' hQ'=>?_
      simp only [Act.put,sX,sS,sZ]
      have nL0 : (0 : Int) <= (L : Int):=by omega
      have nL1 : (L : Int) < 64:=by omega
      replace hb10:=Hd hb10
      go_wp2_with fail
      refine hQ' _ _ rfl (fun w11 hb11=>⟨hRB9.out.below (hb10.out.trans (hb11.mono hb10.out.size)) hRB9.out.lt,((hb10.out.trans (hb11.mono hb10.out.size)).cell (p:=⟨C,1 + L,none⟩) hCl.out.2).trans hCl.out.1⟩) ?_
      clear hQ'
      intro w11 hb11'
      have hb11:=Hd (hb10.out.trans (hb11'.mono hb10.out.size))
      clear hb11' hb10
      have hRBw:=Hd (hRB9.out.below hb11.out hRB9.out.lt)
      have hown11:=row_below hown9'.out hb11.out
      have hgr11:=grown_below hgr9'.out hb11.out
      have hadd:=hn5'.out.addRule (k:=k) hL64 hL.out hown11 (by rw [hsl]) (by rw [hrv.out]; exact hgr11) (by rw [hrv.out]; exact hat9'.out.imp_right (fun e=>by rw [e]; exact lQ _))
      replace hadd:=Hd hadd
      have z0:=(hb11.out.cell (p:=⟨C,1 + L,none⟩) hCl.out.2).trans hCl.out.1
      have f0 : w11.frozen? ⟨C,1 + L,none⟩ = false:=(hn5'.out.chart.same ((hb11.out.block C hCl.out.2).trans (hgr9'.out.block C hn5'.out.chart.lt (fun e=>by have:=(hrow'.out.lt C e.symm).1; have:=hn5'.out.lt.1; omega)))).frozen _
      have l0 : C < w11.heap.size:=Nat.lt_of_lt_of_le hCl.out.2 hb11.out.size
      have hRBz : Hid (Blk (w11.setCell ⟨C,1 + L,none⟩ (.slice (some ⟨g9,0,none⟩) (sl + 1) cap9)) RB 74 #[.int .i64 (L : Int),.slice Ai its.length ci]):=Hd (hRBw.out.far (p:=⟨C,1 + L,none⟩) (by show RB ≠ C; have:=hBR.out; have:=hn5'.out.lt.1; omega) _)
      clear hRBw hown11 hgr11 hb11 hgr9' hat9' hown9' hCl hRB9 hrow' hn5' hb5' hB3 hcl hn1 kR1
      clear hrv
      generalize (fun i=>if i = L then Value.slice (some ⟨g9,0,none⟩) (sl + 1) cap9 else rv i) = rv1 at *
      have y0:=hRBz.out.cell 0
      have y1:=hRBz.out.cell 1
      simp at y0 y1
      go_wp2_with fail
      clear z0 f0 l0 y0 y1
      replace hsl:=Hd hsl
      generalize w11.setCell ⟨C,1 + L,none⟩ (.slice (some ⟨g9,0,none⟩) (sl + 1) cap9) = w12 at *
      clear hlt9 sd1 sd4
      go_loopw [9,10] (fun nv jv wi=>∃ (i nx : Nat) (E' : List PEnd) (M' : List (PEnd × Nat)) (ev' : Value),i <= its.length /\ nv = .int .i64 nx /\ jv = .int .i64 ((i : Int) - 1) /\ Hid (NewC w B C S R N Bg (.slice At tn tc) g (k + 1) k E' (E'.length - 1) M' bg rv1 ev' wi) /\ Hid (Chain E' (its.drop i) nx) /\ Hid (E'.length + i <= 1 + 8 * k + its.length) /\ Hid (Blk wi RB 74 #[.int .i64 (L : Int),.slice Ai its.length ci])) (fun _ jv _=>(intOf jv + 1).toNat)
      case atStart=>exact ⟨its.length,0,E,M,ev,lQ _,rfl,rfl,hadd,Hd (by rw [List.drop_length]; exact hadd.out.e0),Hd (by have:=hel.out; omega),hRBz⟩
      case round=>
        obtain ⟨i,nx,E',M',ev',hi,rfl,rfl,hnc,hch,hel',hRBi⟩:=hrel
        rename World=>wi
        clear hadd hRBz hel
        have y0:=hRBi.out.cell 0
        have y1:=hRBi.out.cell 1
        simp at y0 y1
        by_cases hi0 : 0 < i
        · obtain ⟨i',rfl⟩ : ∃ i',i = i' + 1:=⟨i - 1,by omega⟩
          have hj : ((i' + 1 : Nat) : Int) - 1 = (i' : Int):=by omega
          rw [hj]
          clear hj hi0
          have nj0 : (0 : Int) <= (i' : Int):=by omega
          have nj1 : (i' : Int) < (its.length : Int):=by omega
          obtain ⟨bi,oi,hAi,hbi,hit⟩ : ∃ bi oi,Ai = some ⟨bi,oi,none⟩ /\ bi < w.heap.size /\ ItemAt w bi (oi + i' * 2) (its.getD i' PItem.zero):=by
            obtain ⟨A,c,e,_,_,hA⟩:=hiv.out
            cases e
            obtain ⟨b,o,rfl,hb,_,h⟩:=hA (by omega)
            exact ⟨b,o,rfl,hb,h i' (by omega)⟩
          subst hAi
          have hitb:=hitB.out (its.getD i' PItem.zero) (by rw [getD_at _ _ _ (show i' < its.length by omega)]; exact List.getElem_mem _)
          have hdrop : Hid (its.drop i' = its.getD i' PItem.zero :: its.drop (i' + 1)):=Hd (by rw [getD_at _ _ _ (show i' < its.length by omega)]; exact List.drop_eq_getElem_cons (by omega))
          generalize its.getD i' PItem.zero = it at *
          have hbi2:=hnc.out.below
          have hnxl:=hch.out.lt
          obtain ⟨Ae,ce,rfl,hce1,hce2,hAe⟩:=OwnEnds.sl_ hnc.out.ends (P:=fun _=>True) (fun _ _ _=>trivial)
          obtain ⟨eb,eo,rfl,heb,_,hei⟩:=hAe (by omega)
          have he : EndAt wi eb (eo + nx * 4) (E'.getD nx PEnd.zero):=hei nx hnxl
          have heq:=hch.out.items
          rw [List.length_drop] at heq
          obtain ⟨q,hq⟩ : ∃ q,q = its.length - (i' + 1):=⟨_,rfl⟩
          have he3:=he.c3
          rw [heq,<- hq] at he3
          have hq8 : q <= 8:=by omega
          replace hq:=Hd hq
          clear hei hAe he heq
          have hcl : Hid (∀ w2,Below wi.heap.size wi w2 -> NewC w B C S R N Bg (.slice At tn tc) g (k + 1) k E' (E'.length - 1) M' bg rv1 (.slice (some ⟨eb,eo,none⟩) E'.length ce) w2):=Hd fun w2 h2=>hnc.out.keep h2
          go_upto_region 11 with fail
          have cI : ∀ w2,Below wi.heap.size wi w2 -> (w2.cell? ⟨bi,oi + i' * 2,none⟩ = some (.int .u16 (it.cls : Int)) /\ w2.cell? ⟨bi,oi + i' * 2 + 1,none⟩ = some (.int .i64 (it.sym : Int))):=fun w2 h2=>
            have hb:=hbi2.trans (h2.mono hbi2.size)
            ⟨(hb.cell (p:=⟨bi,oi + i' * 2,none⟩) hbi).trans hit.c0,(hb.cell (p:=⟨bi,oi + i' * 2 + 1,none⟩) hbi).trans hit.c1⟩
          have cE : ∀ w2,Below wi.heap.size wi w2 -> (w2.cell? ⟨C,66,none⟩ = some (.slice (some ⟨eb,eo,none⟩) E'.length ce) /\ w2.cell? ⟨eb,eo + nx * 4 + 3,none⟩ = some (.int .i64 (q : Int))):=fun w2 h2=>
            ⟨(hcl.out w2 h2).chart.cell_end,(h2.cell (p:=⟨eb,eo + nx * 4 + 3,none⟩) heb).trans he3⟩
          have cI':=Hd cI
          have cE':=Hd cE
          clear cI cE he3 hit
          have nx0 : (0 : Int) <= (nx : Int):=by omega
          have nx1 : (nx : Int) < (E'.length : Int):=by omega
          refine wp_region_flow (C:=fun w2=>Blk w2 RB 74 #[.int .i64 (L : Int),.slice (some ⟨bi,oi,none⟩) its.length ci] /\ (w2.cell? ⟨bi,oi + i' * 2,none⟩ = some (.int .u16 (it.cls : Int)) /\ w2.cell? ⟨bi,oi + i' * 2 + 1,none⟩ = some (.int .i64 (it.sym : Int))) /\ (w2.cell? ⟨C,66,none⟩ = some (.slice (some ⟨eb,eo,none⟩) E'.length ce) /\ w2.cell? ⟨eb,eo + nx * 4 + 3,none⟩ = some (.int .i64 (q : Int)))) [true,true,true,true,true,true,true,true,true,true,true,true,true,true,true,true,false] [16] _ (by kernel_rfl) (by kernel_rfl) (by kernel_rfl) rfl (by rfl) (by kernel_rfl)
            (fun w2 hb=>⟨hRBi.out.below hb hRBi.out.lt,cI'.out w2 hb,cE'.out w2 hb⟩) ?A2 ?q2 ?t2
          case q2=>
            intro S' hS hSC hne
            skip
            have z0:=fun (u : UpsC S')=>(hSC u.wld u.mem).1.cell 1
            have z1:=fun (u : UpsC S')=>(hSC u.wld u.mem).2.1.1
            have z2:=fun (u : UpsC S')=>(hSC u.wld u.mem).2.1.2
            have z3:=fun (u : UpsC S')=>(hSC u.wld u.mem).2.2.1
            have z4:=fun (u : UpsC S')=>(hSC u.wld u.mem).2.2.2
            simp at z0
            simp only [pickB,if_true,if_false,Bool.false_eq_true]
            repeat (go_big_quiet_step (fail))
            refine wpQuiet_nil ?_
            rfl
          simp only [pickB,if_true,if_false,Bool.false_eq_true,Bool.true_eq_false]
          refine mkL_cons rfl fun w3' hb3' Q' hQ'=>?_
          go_wp2_with fail
          have hb4':=Hd (hb3'.alloc hb3'.size (.cells #[.int .u16 0,.int .i64 0,.int .i64 0,.int .i64 0] 243))
          have kY:=Hd (Blk.new w3' 243 #[.int .u16 0,.int .i64 0,.int .i64 0,.int .i64 0])
          have hYB : Hid (wi.heap.size <= w3'.heap.size):=Hd hb3'.size
          clear hb3'
          refine hQ' _ _ rfl (fun w5 hb5=>⟨hRBi.out.below (hb4'.out.trans (hb5.mono hb4'.out.size)) hRBi.out.lt,cI'.out w5 (hb4'.out.trans (hb5.mono hb4'.out.size)),cE'.out w5 (hb4'.out.trans (hb5.mono hb4'.out.size))⟩) ?_
          clear hQ'
          intro w5' hb5
          have hb5':=Hd (hb4'.out.trans (hb5.mono hb4'.out.size))
          have kY5:=Hd (kY.out.below hb5 kY.out.lt)
          clear hb4' hb5 kY cI' cE' hcl
          generalize w3'.heap.size = YB at *
          refine wpList_store_rowTo rfl 243 (.tmp 11) (.tmp 71) rfl rfl YB #[.int .u16 (it.cls : Int),.int .i64 (it.sym : Int),.int .i64 (nx : Int),.int .i64 ((q + 1 : Nat) : Int)] rfl rfl 243 _ kY5.out (by kernel_rfl) rfl (by simp [Value.oneCell']) ?_
          have kYs : Hid (Blk (w5'.setRow YB #[.int .u16 (it.cls : Int),.int .i64 (it.sym : Int),.int .i64 (nx : Int),.int .i64 ((q + 1 : Nat) : Int)]) YB 243 #[.int .u16 (it.cls : Int),.int .i64 (it.sym : Int),.int .i64 (nx : Int),.int .i64 ((q + 1 : Nat) : Int)]):=Hd (setRow_heap _ _ _ _ _ _ kY5.out)
          have hb6 : Hid (Below wi.heap.size wi (w5'.setRow YB #[.int .u16 (it.cls : Int),.int .i64 (it.sym : Int),.int .i64 (nx : Int),.int .i64 ((q + 1 : Nat) : Int)])):=Hd (below_setRow hb5'.out hYB.out _)
          generalize w5'.setRow YB #[.int .u16 (it.cls : Int),.int .i64 (it.sym : Int),.int .i64 (nx : Int),.int .i64 ((q + 1 : Nat) : Int)] = w6 at *
          clear kY5 hb5'
          apply wpList_nil
          have hnc6:=Hd (hnc.out.keep hb6.out)
          have hRB6:=Hd (hRBi.out.below hb6.out hRBi.out.lt)
          clear hRBi y0 y1 hbi2
          have hq1b : q + 1 <= 9:=by omega
          generalize hq1 : q + 1 = q1 at kYs hq1b
          replace hq1:=Hd hq1
          have x0:=kYs.out.cell 0
          have x1:=kYs.out.cell 1
          have x2:=kYs.out.cell 2
          have x3:=kYs.out.cell 3
          simp at x0 x1 x2 x3
          have hbb:=hitb
          have helx:=hel'.out
          have hask:=hnc6.out.nums.ask ⟨it,nx,q1⟩ (by exact hitb.1) (by show it.sym <= 1000000; omega) (by show nx <= 1000000; omega) (by show q1 <= 1000000; omega)
          simp only [encEnd] at hask
          clear hbb helx
          rcases hqq : getA (⟨it,nx,q1⟩ : PEnd) M' with _ | v0
          · simp only [hqq,orV,Option.isSome] at hask
            have ye:=hnc6.out.chart.cell_end
            go_upto_region 15 with fail
            clear x0 x1 x2 x3 hask ye hqq
            refine wp_region_flow (C:=fun w2=>Blk w2 YB 243 #[.int .u16 (it.cls : Int),.int .i64 (it.sym : Int),.int .i64 (nx : Int),.int .i64 (q1 : Int)] /\ w2.cell? ⟨C,66,none⟩ = some (.slice (some ⟨eb,eo,none⟩) E'.length ce)) [true,true,true,true,true,true,false,false,false,false] [6,7,8,9] _ (by kernel_rfl) (by kernel_rfl) (by kernel_rfl) rfl (by rfl) (by kernel_rfl)
              (fun w2 hb=>⟨kYs.out.below hb kYs.out.lt,(hb.cell (p:=⟨C,66,none⟩) hnc6.out.chart.lt).trans hnc6.out.chart.cell_end⟩) ?A3 ?q3 ?t3
            case q3=>
              intro S' hS hSC hne
              have z0:=fun (u : UpsC S')=>(hSC u.wld u.mem).1.cell 0
              have z1:=fun (u : UpsC S')=>(hSC u.wld u.mem).1.cell 1
              have z2:=fun (u : UpsC S')=>(hSC u.wld u.mem).1.cell 2
              have z3:=fun (u : UpsC S')=>(hSC u.wld u.mem).1.cell 3
              have z4:=fun (u : UpsC S')=>(hSC u.wld u.mem).2
              simp at z0 z1 z2 z3
              simp only [pickB,if_true,if_false,Bool.false_eq_true]
              repeat (go_big_quiet_step (fail))
              refine wpQuiet_nil ?_
              rfl
            simp only [pickB,if_true,if_false,Bool.false_eq_true,Bool.true_eq_false]
            have hB3 : Hid (∀ w2,Below w6.heap.size w6 w2 -> NewC w B C S R N Bg (.slice At tn tc) g (k + 1) k E' (E'.length - 1) M' bg rv1 (.slice (some ⟨eb,eo,none⟩) E'.length ce) w2):=Hd fun w2 h=>hnc6.out.keep h
            refine mkL_cons rfl fun v3 hb3 Q' hQ'=>?_
            go_wp2_with fail
            have hb4:=(hb3.alloc hb3.size (.cells #[.int .u16 (it.cls : Int),.int .i64 (it.sym : Int),.int .i64 (nx : Int),.int .i64 (q1 : Int)] 243))
            have kX:=Blk.new v3 243 #[.int .u16 (it.cls : Int),.int .i64 (it.sym : Int),.int .i64 (nx : Int),.int .i64 (q1 : Int)]
            refine hQ' _ _ rfl (fun w5 hb5=>⟨kYs.out.below (hb4.trans (hb5.mono hb4.size)) kYs.out.lt,((hb4.trans (hb5.mono hb4.size)).cell (p:=⟨C,66,none⟩) hnc6.out.chart.lt).trans hnc6.out.chart.cell_end⟩) ?_
            clear hQ'
            refine mkL_cons rfl fun v5 hb5 Q' hQ'=>?_
            have hn5:=hB3.out v5 (hb4.trans (hb5.mono hb4.size))
            have kX5:=kX.below hb5 kX.lt
            have hb5':=Hd (hb4.trans (hb5.mono hb4.size))
            have hn5':=Hd hn5
            have hrow':=Hd hn5.ends.1
            have hel9:=hel'.out
            have sd1 : E'.length + 1 <= maxLen:=by unfold maxLen; omega
            have sd4 : (E'.length + 1) * 32 <= 140737488355328:=by omega
            clear hb4 hb5 hn5 hel9
            generalize v3.heap.size = XC at *
            (refine wpList_append_lies _ rfl (.tmp 89) (.tmp 91) 244 rfl w.heap.size 243 iE (.agg #[.int .u16 0,.int .i64 0,.int .i64 0,.int .i64 0]) 4 32 Tryz.underlying244 hiE hEz0 hEz1 hEz2 rfl (by decide) (.slice (some ⟨eb,eo,none⟩) E'.length ce) E'.length (E'.flatMap endCells) rfl (by exact hrow'.out) ⟨XC,0,none⟩ 1 1 [.int .u16 (it.cls : Int),.int .i64 (it.sym : Int),.int .i64 (nx : Int),.int .i64 (q1 : Int)] rfl rfl (by exact World.news_of_block (cs:=#[.int .u16 (it.cls : Int),.int .i64 (it.sym : Int),.int .i64 (nx : Int),.int .i64 (q1 : Int)]) kX5) (one4 rfl rfl rfl rfl) Nat.one_pos sd1 sd4 hn5'.out.below.size v5.heap.size rfl ?_; intro g8 cap8 v9 hown9 hgr9 hat9 hlt9)
            have hYr : (Value.slice (some ⟨eb,eo,none⟩) E'.length ce).ownBlock ≠ some YB:=fun e=>by
              have h1:=(hnc6.out.ends.1.lt YB e).2
              have h2:=hnc.out.ends.1.lt YB e
              have:=hYB.out
              omega
            have hYB9:=Hd ((kYs.out.below hb5'.out kYs.out.lt).grown hgr9 (fun e=>hYr e.symm))
            have hRr : (Value.slice (some ⟨eb,eo,none⟩) E'.length ce).ownBlock ≠ some RB:=(hRB6.out.below hb5'.out hRB6.out.lt).ne_row hrow'.out (by decide)
            have hRB9:=Hd ((hRB6.out.below hb5'.out hRB6.out.lt).grown hgr9 (fun e=>hRr e.symm))
            have hCr : (Value.slice (some ⟨eb,eo,none⟩) E'.length ce).ownBlock ≠ some C:=fun e=>(hn5'.out.endsF C e).1 rfl
            have hC9:=Hd (hn5'.out.chart.same (hgr9.block C hn5'.out.chart.lt (fun e=>hCr e.symm)))
            have hYC : Hid (YB ≠ C /\ RB ≠ C):=Hd (by have:=hnc6.out.lt.1; have:=hnc.out.Bge.2; have:=hYB.out; have:=hBR.out; exact ⟨by omega,by omega⟩)
            have hown9':=Hd hown9
            have hgr9':=Hd hgr9
            have hat9':=Hd hat9
            clear hown9 hgr9 hat9 hRr hYr hCr kX5 kX
            apply wpList_nil
            refine hQ' _ _ rfl (fun v10 hb10=>⟨hYB9.out.below hb10 hYB9.out.lt,(hb10.cell (p:=⟨C,66,none⟩) hC9.out.lt).trans hC9.out.cell_end⟩) ?_
            clear hQ'
            refine mkL_cons rfl fun v10 hb10 Q' hQ'=>?_
            replace hb10:=Hd hb10
            go_wp2_with fail
            refine hQ' _ _ rfl (fun v11 hb11=>⟨hYB9.out.below (hb10.out.trans (hb11.mono hb10.out.size)) hYB9.out.lt,((hb10.out.trans (hb11.mono hb10.out.size)).cell (p:=⟨C,66,none⟩) hC9.out.lt).trans hC9.out.cell_end⟩) ?_
            clear hQ'
            refine mkL_cons rfl fun v11 hb11' Q' hQ'=>?_
            have hb11:=Hd (hb10.out.trans (hb11'.mono hb10.out.size))
            clear hb10 hb11'
            go_wp2_with fail
            refine hQ' _ _ rfl (fun v12 hb12=>⟨hYB9.out.below (hb11.out.trans (hb12.mono hb11.out.size)) hYB9.out.lt,((hb11.out.trans (hb12.mono hb11.out.size)).cell (p:=⟨C,66,none⟩) hC9.out.lt).trans hC9.out.cell_end⟩) ?_
            clear hQ'
            intro v12 hb12'
            have hb12:=Hd (hb11.out.trans (hb12'.mono hb11.out.size))
            clear hb11 hb12'
            have hadd:=Hd (hn5'.out.addEnd (e:=⟨it,nx,q1⟩) (row_below hown9'.out hb12.out) rfl (grown_below hgr9'.out hb12.out) (hat9'.out.imp_right (fun e=>by rw [e]; exact lQ _)))
            have hRBz : Hid (Blk (v12.setCell ⟨C,66,none⟩ (.slice (some ⟨g8,0,none⟩) (E'.length + 1) cap8)) RB 74 #[.int .i64 (L : Int),.slice (some ⟨bi,oi,none⟩) its.length ci]):=Hd ((hRB9.out.below hb12.out hRB9.out.lt).far (p:=⟨C,66,none⟩) hYC.out.2 _)
            have hYBz : Hid (Blk (v12.setCell ⟨C,66,none⟩ (.slice (some ⟨g8,0,none⟩) (E'.length + 1) cap8)) YB 243 #[.int .u16 (it.cls : Int),.int .i64 (it.sym : Int),.int .i64 (nx : Int),.int .i64 (q1 : Int)]):=Hd ((hYB9.out.below hb12.out hYB9.out.lt).far (p:=⟨C,66,none⟩) hYC.out.1 _)
            have z0:=(hC9.out.same (hb12.out.block C hC9.out.lt)).cell_end
            have f0:=(hC9.out.same (hb12.out.block C hC9.out.lt)).frozen 66
            have l0:=(hC9.out.same (hb12.out.block C hC9.out.lt)).lt
            have hone:=hn5'.out.e0.1
            clear hb12 hC9 hYB9 hRB9 hown9' hgr9' hat9' hrow' hn5' hb5' hB3 hlt9 hYC hRB6 hnc6 hnc kYs hb6
            go_upto_region 16 with fail
            clear z0 f0 l0
            generalize v12.setCell ⟨C,66,none⟩ (.slice (some ⟨g8,0,none⟩) (E'.length + 1) cap8) = v13 at *
            have hE9:=hel'.out
            obtain ⟨w7,hrun,hmap,hgr⟩:=hadd.out.nums.write ⟨it,nx,q1⟩ E'.length (by exact hitb.1) (by show it.sym <= 1000000; omega) (by show nx <= 1000000; omega) (by show q1 <= 1000000; omega) (by omega)
            clear hE9
            simp only [encEnd] at hrun
            have hn7:=hadd.out.addNum hmap hgr (by simp) (getD_snoc_last _ _ _)
            have hRB7:=Hd (hRBz.out.grown hgr (fun e=>by have:=hBR.out; have:=hadd.out.lt.2.2.2.1; have:=Option.some.inj e; omega))
            rw [show E'.length - 1 + 1 = (E' ++ [(⟨it,nx,q1⟩ : PEnd)]).length - 1 by simp; omega] at hn7
            replace hn7:=Hd hn7
            have x0:=hYBz.out.cell 0
            have x1:=hYBz.out.cell 1
            have x2:=hYBz.out.cell 2
            have x3:=hYBz.out.cell 3
            simp at x0 x1 x2 x3
            clear hmap hgr hadd hRBz
            go_wp2_with fail
            go_roundw
            case rel=>exact ⟨i',E'.length,E' ++ [⟨it,nx,q1⟩],_,_,by omega,rfl,rfl,hn7,Hd (by rw [hdrop.out]; exact ⟨by simp,by rw [getD_snoc_last],by rw [getD_snoc_last,List.length_drop]; have:=hq1.out; have:=hq.out; show q1 = _; omega,by rw [getD_snoc_last]; exact hch.out.snoc⟩),Hd (by have:=hel'.out; simp; omega),hRB7⟩
            case measure=>simp [intOf]
          · simp only [hqq,orV,Option.isSome] at hask
            obtain ⟨hv0,hv1⟩:=hnc6.out.numOK _ _ hqq
            replace hqq:=Hd hqq
            go_wp2_with fail
            go_roundw
            case rel=>exact ⟨i',v0,E',M',_,by omega,rfl,rfl,hnc6,Hd (by rw [hdrop.out]; exact ⟨hv0,by rw [hv1],by rw [hv1,List.length_drop]; have:=hq1.out; have:=hq.out; show q1 = _; omega,by rw [hv1]; exact hch.out⟩),Hd (by have:=hel'.out; omega),hRB6⟩
            case measure=>simp [intOf]
        · obtain rfl : i = 0:=by omega
          have hset:=Hd (hnc.out.setBeg (nx:=nx) hlt (by rw [hrul.out]; simpa using hch.out))
          have yb:=hnc.out.chart.cell_beg
          have lb:=hnc.out.begs.cell k
          have hbl:=hnc.out.blen
          rw [List.getElem?_toArray,List.getElem?_map,List.getElem?_eq_getElem (by omega),Option.map_some] at lb
          generalize bg[k] = bk at lb
          have fb:=hnc.out.begs.frozen k
          have llb:=hnc.out.begs.lt
          clear hbl
          have hm1 : ((0 : Nat) : Int) - 1 = -1:=rfl
          rw [hm1]
          go_wp2_with fail
          go_roundw
          case rel=>exact ⟨k + 1,E',M',bg.set k nx,rv1,ev',by omega,by go_num,hset,Hd (by have:=hel'.out; omega)⟩
          case measure=>simp [intOf]; omega
    · obtain rfl : k = g.length:=by omega
      go_wp2_with fail
      refine bodyPost_ret (v:=.pointer (some ⟨C,0,none⟩)) ?_ rfl ?_
      · exact results_tmp Tryz.results113 _ _ _
      · exact ⟨B,C,S,R,N,Bg,E,M,bg,rv,ev,rfl,hnc.out,hel.out⟩
end
end Go.Proofs.YteclineblddpbaaGreatDoorR
