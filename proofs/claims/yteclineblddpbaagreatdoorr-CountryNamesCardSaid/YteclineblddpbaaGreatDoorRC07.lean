import Derived.Test.YteclineblddpbaaGreatDoorRC01
import Derived.Test.YteclineblddpbaaGreatDoorRC06
import Derived.Shelf.Strings.Builder1
import Derived.Shelf.Strings.Builder2
import Derived.Shelf.Strings.OnBuilder
import Derived.Shelf.Strings.Search3
import Derived.Test.YteclineblddpbaaGreatDoorRProg
import Derived.Deep.QuietTactic
import Derived.BigQuiet
set_option linter.all false
set_option maxRecDepth 100000
set_option maxHeartbeats 0
namespace Go.Proofs.YteclineblddpbaaGreatDoorR
section
open Go.Shelf
def Sh.lays156_ren : Go.Shelf.Ren:=⟨fun | 156=>29 | 165=>68 | 166=>69 | 169=>70 | 240=>123 | 241=>124 | 276=>180 | 277=>181 | n=>n,fun | 31=>22 | 9=>9 | 3=>3 | 4=>4 | 0=>0 | 20=>20 | 72=>129 | 76=>133 | 70=>127 | 37=>77 | 75=>132 | 127=>194 | 164=>256 | 5=>5 | 80=>135 | n=>n,fun | n=>n⟩
theorem Sh.lays156 : Go.Proofs.Lays.n156 Tryz.prog Sh.lays156_ren:={
 mixed:=by kernel_rfl
 f156:=Tryz.func29.trans (congrArg some (by kernel_rfl))
 f165:=Tryz.func68.trans (congrArg some (by kernel_rfl))
 f166:=Tryz.func69.trans (congrArg some (by kernel_rfl))
 f169:=Tryz.func70.trans (congrArg some (by kernel_rfl))
 f240:=Tryz.func123.trans (congrArg some (by kernel_rfl))
 f241:=Tryz.func124.trans (congrArg some (by kernel_rfl))
 f276:=Tryz.func180.trans (congrArg some (by kernel_rfl))
 f277:=Tryz.func181.trans (congrArg some (by kernel_rfl))
 t0:=Tryz.underlying0
 a0:=Tryz.isAgg0
 z0:=Tryz.sizeOf0
 v0:=Tryz.zeroValue0
 t3:=Tryz.underlying3
 a3:=Tryz.isAgg3
 z3:=Tryz.sizeOf3
 v3:=Tryz.zeroValue3
 t4:=Tryz.underlying4
 a4:=Tryz.isAgg4
 z4:=Tryz.sizeOf4
 v4:=Tryz.zeroValue4
 t9:=Tryz.underlying9
 a9:=Tryz.isAgg9
 z9:=Tryz.sizeOf9
 v9:=Tryz.zeroValue9
 t20:=Tryz.underlying20
 a20:=Tryz.isAgg20
 z20:=Tryz.sizeOf20
 v20:=Tryz.zeroValue20
 t31:=Tryz.underlying22
 a31:=Tryz.isAgg22
 z31:=Tryz.sizeOf22
 v31:=Tryz.zeroValue22
 t37:=Tryz.underlying77
 a37:=Tryz.isAgg77
 z37:=Tryz.sizeOf77
 v37:=Tryz.zeroValue77
 t70:=Tryz.underlying127
 a70:=Tryz.isAgg127
 z70:=Tryz.sizeOf127
 v70:=Tryz.zeroValue127
 t72:=Tryz.underlying129
 a72:=Tryz.isAgg129
 z72:=Tryz.sizeOf129
 v72:=Tryz.zeroValue129
 t75:=Tryz.underlying132
 a75:=Tryz.isAgg132
 z75:=Tryz.sizeOf132
 v75:=Tryz.zeroValue132
 t76:=Tryz.underlying133
 a76:=Tryz.isAgg133
 z76:=Tryz.sizeOf133
 v76:=Tryz.zeroValue133
 t127:=Tryz.underlying194
 a127:=Tryz.isAgg194
 z127:=Tryz.sizeOf194
 v127:=Tryz.zeroValue194
 t164:=Tryz.underlying256
 a164:=Tryz.isAgg256
 z164:=Tryz.sizeOf256
 v164:=Tryz.zeroValue256 }
theorem Sh.Builder_Extra_156 : Builder.Extra Tryz.prog Sh.lays156_ren:={
 sizeBuilder:=by kernel_rfl
 liesBuilder:=by kernel_rfl
 t5:=Tryz.underlying5
 a5:=Tryz.isAgg5
 z5:=Tryz.sizeOf5
 v5:=Tryz.zeroValue5
 infoByte:=by kernel_rfl
 cellsByte:=by kernel_rfl
 sizeByte:=by kernel_rfl
 neB5:=by decide }
open Go.RowKit in
theorem Sh.strings_Join_none (a : Option Addr) (c : Nat) (sep : ByteArray) (w : World) :
  Calls Tryz.prog 29 #[.slice a 0 c,.string sep] w fun e w'=>e = .returned (.string ⟨#[]⟩) /\ w' = w:=Any.strings_Join_none Sh.lays156 Sh.Builder_Extra_156 a c sep w
open Go.RowKit in
theorem Sh.strings_Join (bk o c : Nat) (xs : List ByteArray) (sep : ByteArray) (w : World) (hcells : ∀ (j : Nat) x,xs[j]? = some x -> w.cell? ⟨bk,o + j,none⟩ = some (.string x)) (hbk : bk < w.heap.size) (hN : xs.length <= 140737488355328) (hcap : xs.length <= c) (hlen : (Lib.join (xs.map (·.data.toList)) sep.data.toList).length <= 140737488355328) :
  Calls Tryz.prog 29 #[.slice (some ⟨bk,o,none⟩) xs.length c,.string sep] w fun e w'=>e = .returned (.string ⟨(Lib.join (xs.map (·.data.toList)) sep.data.toList).toArray⟩) /\ Below w.heap.size w w':=Any.strings_Join Sh.lays156 Sh.Builder_Extra_156 bk o c xs sep w hcells hbk hN hcap hlen
def Sh.lays219_ren : Go.Shelf.Ren:=⟨fun | 219=>125 | 217=>182 | 225=>183 | 224=>184 | 267=>185 | 266=>199 | 314=>200 | n=>n,fun | 9=>9 | 3=>3 | 4=>4 | 5=>5 | 46=>149 | 146=>210 | 51=>209 | n=>n,fun | 1=>0 | n=>n⟩
theorem Sh.lays219 : Go.Proofs.Lays.n219 Tryz.prog Sh.lays219_ren:={
 mixed:=by kernel_rfl
 f217:=Tryz.func182.trans (congrArg some (by kernel_rfl))
 f219:=Tryz.func125.trans (congrArg some (by kernel_rfl))
 f224:=Tryz.func184.trans (congrArg some (by kernel_rfl))
 f225:=Tryz.func183.trans (congrArg some (by kernel_rfl))
 f266:=Tryz.func199.trans (congrArg some (by kernel_rfl))
 f267:=Tryz.func185.trans (congrArg some (by kernel_rfl))
 f314:=Tryz.func200.trans (congrArg some (by kernel_rfl))
 t3:=Tryz.underlying3
 a3:=Tryz.isAgg3
 z3:=Tryz.sizeOf3
 v3:=Tryz.zeroValue3
 t4:=Tryz.underlying4
 a4:=Tryz.isAgg4
 z4:=Tryz.sizeOf4
 v4:=Tryz.zeroValue4
 t5:=Tryz.underlying5
 a5:=Tryz.isAgg5
 z5:=Tryz.sizeOf5
 v5:=Tryz.zeroValue5
 t9:=Tryz.underlying9
 a9:=Tryz.isAgg9
 z9:=Tryz.sizeOf9
 v9:=Tryz.zeroValue9
 t46:=Tryz.underlying149
 a46:=Tryz.isAgg149
 z46:=Tryz.sizeOf149
 v46:=Tryz.zeroValue149
 t51:=Tryz.underlying209
 a51:=Tryz.isAgg209
 z51:=Tryz.sizeOf209
 v51:=Tryz.zeroValue209
 t146:=Tryz.underlying210
 a146:=Tryz.isAgg210
 z146:=Tryz.sizeOf210
 v146:=Tryz.zeroValue210
 g1:=by kernel_rfl }
open Go.RowKit Go.Lib in
theorem Sh.stringslite_Index_one (s : ByteArray) (c : UInt8) (w : World) :
  Calls Tryz.prog 125 #[.string s,.string ⟨#[c]⟩] w fun e w'=>e = .returned (.int .i64 (Lib.indexByte s.data.toList c)) /\ w' = w:=Any.stringslite_Index_one Sh.lays219 s c w
def Sh.lays143_ren : Go.Shelf.Ren:=⟨fun | 143=>71 | 219=>125 | 217=>182 | 225=>183 | 224=>184 | 267=>185 | 266=>199 | 314=>200 | n=>n,fun | 9=>9 | 3=>3 | 4=>4 | 5=>5 | 46=>149 | 146=>210 | 51=>209 | n=>n,fun | 1=>0 | n=>n⟩
theorem Sh.lays143 : Go.Proofs.Lays.n143 Tryz.prog Sh.lays143_ren:={
 mixed:=by kernel_rfl
 f143:=Tryz.func71.trans (congrArg some (by kernel_rfl))
 f217:=Tryz.func182.trans (congrArg some (by kernel_rfl))
 f219:=Tryz.func125.trans (congrArg some (by kernel_rfl))
 f224:=Tryz.func184.trans (congrArg some (by kernel_rfl))
 f225:=Tryz.func183.trans (congrArg some (by kernel_rfl))
 f266:=Tryz.func199.trans (congrArg some (by kernel_rfl))
 f267:=Tryz.func185.trans (congrArg some (by kernel_rfl))
 f314:=Tryz.func200.trans (congrArg some (by kernel_rfl))
 t3:=Tryz.underlying3
 a3:=Tryz.isAgg3
 z3:=Tryz.sizeOf3
 v3:=Tryz.zeroValue3
 t4:=Tryz.underlying4
 a4:=Tryz.isAgg4
 z4:=Tryz.sizeOf4
 v4:=Tryz.zeroValue4
 t5:=Tryz.underlying5
 a5:=Tryz.isAgg5
 z5:=Tryz.sizeOf5
 v5:=Tryz.zeroValue5
 t9:=Tryz.underlying9
 a9:=Tryz.isAgg9
 z9:=Tryz.sizeOf9
 v9:=Tryz.zeroValue9
 t46:=Tryz.underlying149
 a46:=Tryz.isAgg149
 z46:=Tryz.sizeOf149
 v46:=Tryz.zeroValue149
 t51:=Tryz.underlying209
 a51:=Tryz.isAgg209
 z51:=Tryz.sizeOf209
 v51:=Tryz.zeroValue209
 t146:=Tryz.underlying210
 a146:=Tryz.isAgg210
 z146:=Tryz.sizeOf210
 v146:=Tryz.zeroValue210
 g1:=by kernel_rfl }
open Go.RowKit Go.Lib in
theorem Sh.strings_Index_one (s : ByteArray) (c : UInt8) (w : World) :
  Calls Tryz.prog 71 #[.string s,.string ⟨#[c]⟩] w fun e w'=>e = .returned (.int .i64 (Lib.indexByte s.data.toList c)) /\ w' = w:=Any.strings_Index_one Sh.lays143 s c w
end
section
open Go.RowKit Go.Maps Go.Shelf Go.Lib
def blankB : ByteArray:=⟨#[32]⟩
theorem index_blank (x : ByteArray) : (Lib.indexByte x.data.toList 32 : Int) = Lib.indexB x blankB:=by
 show _ = Lib.index x.data.toList [32]
 exact (Lib.index_one _ _).symm
def cutS (s : ByteArray) : ByteArray × ByteArray × Bool:=
 if 0 <= Lib.indexByte s.data.toList 32 then (s.extract 0 (Lib.indexByte s.data.toList 32).toNat,s.extract ((Lib.indexByte s.data.toList 32).toNat + 1) s.size,true) else (s,⟨#[]⟩,false)
theorem indexByte_lt : ∀ (l : List UInt8) (c : UInt8),Lib.indexByte l c < l.length
 | [],_=>by simp [Lib.indexByte]
 | b :: l,c=>by
  have ih:=indexByte_lt l c
  unfold Lib.indexByte
  split
  ·simp <;> omega
  ·split
   ·simp <;> omega
   ·simp <;> omega
theorem cut_blank' (s : ByteArray) (w : World) (hs : s.size <= 1000000) :
  Calls Tryz.prog 149 #[.string s,.string ⟨#[32]⟩] w fun e w'=>e = .returned (.tuple #[.string (cutS s).1,.string (cutS s).2.1,.bool (cutS s).2.2]) /\ Below w.heap.size w w':=by
 have hc:=Sh.stringslite_Index_one s 32 w
 have hlt:=indexByte_lt s.data.toList 32
 have hge:=Lib.indexByte_ge s.data.toList 32
 have hsz : s.data.toList.length = s.size:=(Lib.size_eq s).symm
 by_cases h0 : 0 <= Lib.indexByte s.data.toList 32
 ·have hd : Hid (cutS s = (s.extract 0 (Lib.indexByte s.data.toList 32).toNat,s.extract ((Lib.indexByte s.data.toList 32).toNat + 1) s.size,true)):=Hd (by unfold cutS; rw [if_pos h0])
  rw [hsz] at hlt
  generalize Lib.indexByte s.data.toList 32 = i at *
  obtain ⟨k,rfl⟩ : ∃ k : Nat,i = k:=⟨i.toNat,by omega⟩
  have hc':=Hd hc
  have n1 : (k : Int) <= (s.size : Int):=by omega
  have n2 : (k : Int) + 1 <= (s.size : Int):=by omega
  have n3 : (0 : Int) <= (k : Int) + 1:=by omega
  have n4 : IntKind.i64.wrap ((k : Int) + 1) = (k : Int) + 1:=IntWalk.i64_in _ (by omega)
  have n5 : ((k : Int) + 1).toNat = k + 1:=by omega
  have n6 : ((k : Int)).toNat = k:=by omega
  clear hc hge hsz
  go_enter Tryz.func149,Tryz.ntmps149
  go_wp2_with fail
  refine hc'.out.mono ?_
  rintro e w' ⟨rfl,rfl⟩
  go_wp2_with fail
  go_quiet (fail)
  go_wp2
  go_ret3
  exact ⟨by rw [hd.out,n6]; rfl,drewN_below _ _⟩
 ·have hd : Hid (cutS s = (s,⟨#[]⟩,false)):=Hd (by unfold cutS; rw [if_neg h0])
  have hc':=Hd hc
  have h0' : decide (0 <= Lib.indexByte s.data.toList 32) = false:=decide_eq_false h0
  clear hc hge hsz hlt
  go_enter Tryz.func149,Tryz.ntmps149
  go_wp2_with fail
  refine hc'.out.mono ?_
  rintro e w' ⟨rfl,rfl⟩
  go_wp2
  go_ret3
  exact ⟨by rw [hd.out]; rfl,Below.refl _ _⟩
theorem cut_blank (s : ByteArray) (w : World) (hs : s.size <= 1000000) :
  Calls Tryz.prog 78 #[.string s,.string ⟨#[32]⟩] w fun e w'=>e = .returned (.tuple #[.string (cutS s).1,.string (cutS s).2.1,.bool (cutS s).2.2]) /\ Below w.heap.size w w':=by
 have hc:=Hd (cut_blank' s w hs)
 go_enter Tryz.func78,Tryz.ntmps78
 go_wp2_with fail
 refine hc.out.mono ?_
 rintro e w' ⟨rfl,hb⟩
 go_wp2
 go_ret3
 exact ⟨rfl,hb⟩
theorem cutS_size (s : ByteArray) : (cutS s).1.size <= s.size /\ (cutS s).2.1.size <= s.size:=by
 unfold cutS
 split
 ·simp only [ByteArray.size_extract]; omega
 ·exact ⟨lQ _,Nat.zero_le _⟩
theorem classesOf_lt (s : ByteArray) : classesOf s < 65536:=by
 have:=sumTo_lt (clsB s) 14
 unfold classesOf
 omega
theorem cls_ne (s : ByteArray) (i : Nat) (h : i < 14) : (bits BinOp.and IntKind.u16 (classesOf s : Int) ((2 ^ i : Nat) : Int) != 0) = clsB s i:=by
 rw [and_bit_ne _ _ (classesOf_lt s) (by omega)]
 exact sumTo_bit _ _ _ h
theorem cls_eq (s : ByteArray) (i : Nat) (h : i < 14) : (bits BinOp.and IntKind.u16 (classesOf s : Int) ((2 ^ i : Nat) : Int) == 0) = !clsB s i:=by
 rw [<- cls_ne s i h,bne,Bool.not_not]
def codeWide (s : ByteArray) : Bool:=(cutS s).2.2 && clsB (cutS s).1 11 && clsB (cutS s).2.1 12
def codeP (c : Int) (s : ByteArray) : ByteArray × Bool:=
 if c = 1 then (if clsB s 9 then (s,true) else (⟨#[]⟩,false))
 else if c = 2 then (if codeWide s then ((cutS s).1 ++ (cutS s).2.1,true) else if clsB s 10 then (s,true) else (⟨#[]⟩,false))
 else if c = 3 then (if clsB s 13 then (s,true) else (⟨#[]⟩,false)) else (⟨#[]⟩,false)
theorem and_zero (n : Int) : (bits BinOp.and IntKind.u16 n 0 == 0) = true:=by
 have : bits BinOp.and IntKind.u16 n 0 = 0:=by
  show IntKind.u16.wrap (((BitVec.ofInt 16 n &&& BitVec.ofInt 16 0).toNat : Nat) : Int) = 0
  rw [show BitVec.ofInt 16 0 = 0#16 from rfl,BitVec.and_zero]
  decide
 rw [this]; rfl
theorem code_any (c : Int) (s : ByteArray) (w : World) (hs : s.size <= 1000000) :
  Calls Tryz.prog 110 #[.int .u8 c,.string s] w fun e w'=>e = .returned (.tuple #[.string (codeP c s).1,.bool (codeP c s).2]) /\ Below w.heap.size w w':=by
 have hcl:=Hd (fun (s : ByteArray) (w : World) (hs : s.size <= 1000000)=>classes_any s w hs)
 by_cases c1 : c = 1
 ·subst c1
  have q:=cls_eq s 9 (by omega)
  have hd : Hid (codeP 1 s = if clsB s 9 then (s,true) else (⟨#[]⟩,false)):=Hd rfl
  simp only [Nat.reducePow,Int.cast_ofNat_Int] at q
  go_enter Tryz.func110,Tryz.ntmps110
  go_wp2_with fail
  refine (hcl.out s _ hs).mono ?_
  rintro e w' ⟨rfl,hb⟩
  cases hc : clsB s 9 with
  | true=>
   rw [hc] at q hd
   clear hc
   go_wp2
   go_ret2
   exact ⟨by rw [hd.out]; rfl,hb⟩
  | false=>
   rw [hc] at q hd
   clear hc
   go_wp2
   go_ret2
   exact ⟨by rw [hd.out]; rfl,hb⟩
 ·by_cases c3 : c = 3
  ·subst c3
   have hd : Hid (codeP 3 s = if clsB s 13 then (s,true) else (⟨#[]⟩,false)):=Hd rfl
   clear c1
   go_enter Tryz.func110,Tryz.ntmps110
   go_wp2_with fail
   refine (hcl.out s _ hs).mono ?_
   rintro e w' ⟨rfl,hb⟩
   have q:=cls_eq s 13 (by omega)
   simp only [Nat.reducePow,Int.cast_ofNat_Int] at q
   cases hc : clsB s 13 with
   | true=>
    rw [hc] at q hd
    clear hc
    go_wp2
    go_ret2
    exact ⟨by rw [hd.out]; rfl,hb⟩
   | false=>
    rw [hc] at q hd
    clear hc
    go_wp2
    go_ret2
    exact ⟨by rw [hd.out]; rfl,hb⟩
  ·by_cases c2 : c = 2
   ·subst c2
    have hcut:=Hd (cut_blank s w hs)
    have hsz:=cutS_size s
    have hd : Hid (codeP 2 s = if codeWide s then ((cutS s).1 ++ (cutS s).2.1,true) else if clsB s 10 then (s,true) else (⟨#[]⟩,false)):=Hd rfl
    have hcw : Hid (codeWide s = ((cutS s).2.2 && clsB (cutS s).1 11 && clsB (cutS s).2.1 12)):=Hd rfl
    clear c1 c3
    go_enter Tryz.func110,Tryz.ntmps110
    go_wp2_with fail
    refine hcut.out.mono ?_
    rintro e w1 ⟨rfl,hb1⟩
    generalize (cutS s).1 = a at *
    generalize (cutS s).2.1 = b at *
    have q1:=cls_ne a 11 (by omega)
    have q2:=cls_ne b 12 (by omega)
    simp only [Nat.reducePow,Int.cast_ofNat_Int] at q1 q2
    have ha : a.size <= 1000000:=by omega
    have hb0 : b.size <= 1000000:=by omega
    have hs0:=hb1.size
    cases hok : (cutS s).2.2 with
    | false=>
     rw [hok] at hcw
     have hw0 : Hid (codeWide s = false):=Hd (by rw [hcw.out]; rfl)
     rw [hw0.out] at hd
     clear hok q1 q2
     go_wp2_with fail
     refine (hcl.out s _ hs).mono ?_
     rintro e w' ⟨rfl,hb2⟩
     have hb:=hb1.trans (hb2.mono hs0)
     have q:=cls_eq s 10 (by omega)
     simp only [Nat.reducePow,Int.cast_ofNat_Int] at q
     cases hc : clsB s 10 with
     | true=>
      rw [hc] at q hd
      clear hc
      go_wp2
      go_ret2
      exact ⟨by rw [hd.out]; rfl,hb⟩
     | false=>
      rw [hc] at q hd
      clear hc
      go_wp2
      go_ret2
      exact ⟨by rw [hd.out]; rfl,hb⟩
    | true=>
     rw [hok] at hcw
     go_wp2_with fail
     refine (hcl.out a _ ha).mono ?_
     rintro e w2 ⟨rfl,hb2⟩
     have hb12:=hb1.trans (hb2.mono hs0)
     have hs2:=hb12.size
     cases h11 : clsB a 11 with
     | false=>
      rw [h11] at hcw q1
      have hw0 : Hid (codeWide s = false):=Hd (by rw [hcw.out]; rfl)
      rw [hw0.out] at hd
      clear hok h11 q2
      go_wp2_with fail
      refine (hcl.out s _ hs).mono ?_
      rintro e w' ⟨rfl,hb3⟩
      have hb:=hb12.trans (hb3.mono hs2)
      have q:=cls_eq s 10 (by omega)
      simp only [Nat.reducePow,Int.cast_ofNat_Int] at q
      cases hc : clsB s 10 with
      | true=>
       rw [hc] at q hd
       clear hc
       go_wp2
       go_ret2
       exact ⟨by rw [hd.out]; rfl,hb⟩
      | false=>
       rw [hc] at q hd
       clear hc
       go_wp2
       go_ret2
       exact ⟨by rw [hd.out]; rfl,hb⟩
     | true=>
      rw [h11] at hcw q1
      go_wp2_with fail
      refine (hcl.out b _ hb0).mono ?_
      rintro e w3 ⟨rfl,hb3⟩
      have hb13:=hb12.trans (hb3.mono hs2)
      have hs3:=hb13.size
      cases h12 : clsB b 12 with
      | false=>
       rw [h12] at hcw q2
       have hw0 : Hid (codeWide s = false):=Hd (by rw [hcw.out]; rfl)
       rw [hw0.out] at hd
       clear hok h11 h12
       go_wp2_with fail
       refine (hcl.out s _ hs).mono ?_
       rintro e w' ⟨rfl,hb4⟩
       have hb:=hb13.trans (hb4.mono hs3)
       have q:=cls_eq s 10 (by omega)
       simp only [Nat.reducePow,Int.cast_ofNat_Int] at q
       cases hc : clsB s 10 with
       | true=>
        rw [hc] at q hd
        clear hc
        go_wp2
        go_ret2
        exact ⟨by rw [hd.out]; rfl,hb⟩
       | false=>
        rw [hc] at q hd
        clear hc
        go_wp2
        go_ret2
        exact ⟨by rw [hd.out]; rfl,hb⟩
      | true=>
       rw [h12] at hcw q2
       have hw0 : Hid (codeWide s = true):=Hd (by rw [hcw.out]; rfl)
       rw [hw0.out] at hd
       clear hok h11 h12
       go_wp2
       go_ret2
       exact ⟨by rw [hd.out]; rfl,hb13⟩
   ·have hd : Hid (codeP c s = (⟨#[]⟩,false)):=Hd (by unfold codeP; rw [if_neg c1,if_neg c2,if_neg c3])
    have q:=and_zero (classesOf s : Int)
    have d1 : (c == 1) = false:=by simpa using c1
    have d2 : (c == 2) = false:=by simpa using c2
    have d3 : (c == 3) = false:=by simpa using c3
    clear c1 c2 c3
    go_enter Tryz.func110,Tryz.ntmps110
    go_wp2_with fail
    refine (hcl.out s _ hs).mono ?_
    rintro e w' ⟨rfl,hb⟩
    go_wp2
    go_ret2
    exact ⟨by rw [hd.out]; rfl,hb⟩
end
section
open Go.RowKit
theorem ownsRow_setAt {w : World} {base : Nat} {e : TypeId} {k : Nat} {v : Value} {n : Nat} {xs : List Value} {g idx : Nat} (u : Value) (h : w.ownsRow base e k v n xs) (hg : v.ownBlock = some g) (_hi : idx < xs.length) :
  (w.setCell ⟨g,idx,none⟩ u).ownsRow base e k v n (xs.set idx u):=by
 obtain ⟨hl,h | ⟨g',cap,cur,rfl,hb,hgh,h1,h2,h3,h4⟩⟩:=h
 ·rw [h.1] at hg; cases hg
 ·obtain rfl : g' = g:=by simpa [Value.ownBlock] using hg
  refine ⟨by simp [hl],.inr ⟨g',cap,cur.setIfInBounds idx u,rfl,hb,?_,h1,h2,by simp [h3],?_⟩⟩
  ·simp [World.setCell,Array.getElem?_modify,hgh]
  ·rw [Array.toList_setIfInBounds,List.take_set,h4]
theorem ownsRow_frozen {w : World} {base : Nat} {e : TypeId} {k : Nat} {v : Value} {n : Nat} {xs : List Value} {g : Nat} (h : w.ownsRow base e k v n xs) (hg : v.ownBlock = some g) (i : Nat) : w.frozen? ⟨g,i,none⟩ = false:=by
 obtain ⟨hl,h | ⟨g',cap,cur,rfl,hb,hgh,h1,h2,h3,h4⟩⟩:=h
 ·rw [h.1] at hg; cases hg
 ·obtain rfl : g' = g:=by simpa [Value.ownBlock] using hg
  simp [World.frozen?,hgh]
theorem flat_set {α β : Type} (f : α -> List β) (k : Nat) (hf : ∀ a,(f a).length = k) : ∀ (l : List α) (i j : Nat) (hi : i < l.length),j < k -> ∀ (u : β) (a' : α),f a' = (f l[i]).set j u -> (l.flatMap f).set (i * k + j) u = (l.set i a').flatMap f
 | [],i,_,hi,_,_,_,_=>by simp at hi
 | a :: l,0,j,_,hj,u,a',e=>by
  simp only [List.flatMap_cons,Nat.zero_mul,Nat.zero_add,sZ,gZ] at e ⊢
  rw [e,List.set_append_left _ _ (by rw [hf]; exact hj)]
 | a :: l,i + 1,j,hi,hj,u,a',e=>by
  simp only [List.flatMap_cons,sS,gQ] at e ⊢
  rw [List.set_append_right _ _ (by rw [hf,Nat.succ_mul]; omega),hf,show (i + 1) * k + j - k = i * k + j from by rw [Nat.succ_mul]; omega]
  rw [flat_set f k hf l i j (by simpa using hi) hj u a' e]
section
variable {α : Type} {E : TypeId} {k : Nat} {cells : α -> List Value} {I : (Nat -> Prop) -> World -> α -> Prop}
theorem OwnL.setOne {B : Nat} {w : World} {v : Value} {ps : List α} {g : Nat} (hI : Inner I) (hf : ∀ a,(cells a).length = k) (h : OwnL E k cells I B w v ps) (hg : v.ownBlock = some g) (i j : Nat) (hi : i < ps.length) (hj : j < k) (u : Value) (a' : α)
  (hc : cells a' = (cells ps[i]).set j u) (hin : I (fun b=>B <= b /\ some b ≠ v.ownBlock) w a') : OwnL E k cells I B (w.setCell ⟨g,i * k + j,none⟩ u) v (ps.set i a'):=by
 have hlt : i * k + j < (ps.flatMap cells).length:=by
  have : (i + 1) * k <= ps.length * k:=Nat.mul_le_mul_right k hi
  rw [h.1.1]
  rw [Nat.succ_mul] at this
  omega
 have hK : Keeps (fun b=>B <= b /\ some b ≠ v.ownBlock) w (w.setCell ⟨g,i * k + j,none⟩ u):=Keeps.set_ _ _ _ (by rw [hg]; simp)
 refine ⟨?_,fun p hp=>?_⟩
 ·have:=ownsRow_setAt u h.1 hg hlt
  rw [flat_set cells k hf ps i j hi hj u a' hc] at this
  simpa using this
 ·rcases List.mem_or_eq_of_mem_set hp with hp | rfl
  ·exact hI.keep (h.2 p hp) hK fun _ _ h=>h
  ·exact hI.keep hin hK fun _ _ h=>h
end
end
section
open Go.RowKit Go.Maps
def joinS (ws : List ByteArray) : ByteArray:=⟨(Lib.join (ws.map (·.data.toList)) [32]).toArray⟩
def fixW (x : ByteArray) : ByteArray:=(longsOf 5 x).headD x
def nameOk (s : ByteArray) : Bool:=decide (foldOf s = s) && decide (0 < (wordsOf s).length) && decide ((wordsOf s).length <= 4) && (wordsOf s).all fun x=>clsB x 2
def nameP (s : ByteArray) : ByteArray × Bool:=if nameOk s then (joinS ((wordsOf s).map fixW),true) else (⟨#[]⟩,false)
theorem wordsTo_size (s : ByteArray) : ∀ i,i <= s.size + 1 -> ∀ x ∈ (wordsTo s i).2,x.size <= s.size
 | 0,_,x,h=>by simp [wordsTo] at h
 | i + 1,hi,x,h=>by
  have ih:=wordsTo_size s i (by omega)
  unfold wordsTo at h
  split at h
  ·exact ih x h
  ·simp only [] at h
   split at h
   ·rcases List.mem_append.1 h with h | h
    ·exact ih x h
    ·rw [mS.1 h,ByteArray.size_extract]
     omega
   ·exact ih x h
theorem wordsOf_size {s x : ByteArray} (h : x ∈ wordsOf s) : x.size <= s.size:=wordsTo_size s _ (lQ _) x h
theorem longsTo_mem (kd : Int) (s : ByteArray) : ∀ k,∀ l ∈ longsTo (table.filter (keepL kd s)) k,k <= (table.filter (keepL kd s)).length -> l.size <= 20
 | 0,l,h,_=>by simp [longsTo] at h
 | k + 1,l,h,hk=>by
  rw [longsTo_succ _ _ hk] at h
  unfold addLong at h
  split at h
  ·exact longsTo_mem kd s k l h (by omega)
  ·rcases List.mem_append.1 h with h | h
   ·exact longsTo_mem kd s k l h (by omega)
   ·rw [mS.1 h,getD_at _ _ _ hk]
    exact (table_size _ (List.mem_filter.1 (List.getElem_mem hk)).1).1
theorem longsOf_size {kd : Int} {s l : ByteArray} (h : l ∈ longsOf kd s) : l.size <= 20:=
 longsTo_mem kd s _ l (by unfold longsTo; rw [List.take_length]; exact h) (lQ _)
theorem fixW_size (x : ByteArray) : (fixW x).size <= x.size + 20:=by
 unfold fixW
 cases h : longsOf 5 x with
 | nil=>simp
 | cons l t=>
  have:=longsOf_size (kd:=5) (s:=x) (l:=l) (by rw [h]; exact List.mem_cons_self ..)
  simp; omega
theorem joinTail_len (sep : List UInt8) (M : Nat) : ∀ r : List (List UInt8),(∀ x ∈ r,x.length <= M) -> (Lib.joinTail sep r).length <= r.length * (M + sep.length)
 | [],_=>by simp [Lib.joinTail]
 | x :: r,h=>by
  have ih:=joinTail_len sep M r fun y hy=>h y (List.mem_cons_of_mem _ hy)
  have hx:=h x (List.mem_cons_self ..)
  unfold Lib.joinTail at ih ⊢
  rw [List.map_cons,List.flatten_cons,List.length_append,List.length_append,List.length_cons,Nat.succ_mul]
  omega
theorem join_len (sep : List UInt8) (M : Nat) (xs : List (List UInt8)) (h : ∀ x ∈ xs,x.length <= M) : (Lib.join xs sep).length <= xs.length * (M + sep.length):=by
 cases xs with
 | nil=>simp [Lib.join_nil]
 | cons x r=>
  rw [Lib.join_cons,List.length_append,List.length_cons,Nat.succ_mul]
  have h1:=joinTail_len sep M r fun y hy=>h y (List.mem_cons_of_mem _ hy)
  have h2:=h x (List.mem_cons_self ..)
  omega
def fixTo (ws : List ByteArray) (k : Nat) : List ByteArray:=(ws.take k).map fixW ++ ws.drop k
theorem fixTo_len (ws : List ByteArray) (k : Nat) (h : k <= ws.length) : (fixTo ws k).length = ws.length:=by
 unfold fixTo
 rw [List.length_append,List.length_map,List.length_take,List.length_drop]
 omega
theorem fixTo_at (ws : List ByteArray) (k : Nat) (h : k < ws.length) : (fixTo ws k)[k]? = some ws[k]:=by
 unfold fixTo
 rw [List.getElem?_append_right (by simp; omega),List.length_map,List.length_take,Nat.min_eq_left (by omega),Nat.sub_self,List.getElem?_drop,Nat.add_zero,List.getElem?_eq_getElem h]
theorem fixTo_succ (ws : List ByteArray) (k : Nat) (h : k < ws.length) : (fixTo ws k).set k (fixW ws[k]) = fixTo ws (k + 1):=by
 unfold fixTo
 rw [List.take_succ_eq_append_getElem h,List.map_append,List.append_assoc,List.set_append_right _ _ (by simp; omega),List.length_map,List.length_take,Nat.min_eq_left (by omega),Nat.sub_self,List.drop_eq_getElem_cons h,sZ]
 rfl
theorem fixTo_all (ws : List ByteArray) : fixTo ws ws.length = ws.map fixW:=by
 unfold fixTo
 rw [List.take_length,List.drop_length,List.append_nil]
theorem own_n {B : Nat} {w : World} {g n c : Nat} {l : List ByteArray} (h : OwnStrs B w (.slice (some ⟨g,0,none⟩) n c) l) : n = l.length:=by
 rcases h.1.2 with ⟨e,h1⟩ | ⟨g,cap,cur,e,hb,hg,h1,h2,h3⟩
 ·cases e
 ·exact (Value.slice.inj e).2.1
theorem set_same {α : Type} {l : List α} {i : Nat} {a : α} (h : l[i]? = some a) : l.set i a = l:=by
 obtain ⟨hi,rfl⟩:=List.getElem?_eq_some_iff.1 h
 exact List.set_getElem_self hi
theorem own_cell {B : Nat} {w : World} {g n c : Nat} {l : List ByteArray} (h : OwnStrs B w (.slice (some ⟨g,0,none⟩) n c) l) (i : Nat) (x : ByteArray) (hx : l[i]? = some x) : w.cell? ⟨g,i,none⟩ = some (.string x):=by
 obtain ⟨hi,rfl⟩:=List.getElem?_eq_some_iff.1 hx
 obtain rfl:=own_n h
 rw [h.1.cellAt i (show i < l.length * 1 from by omega)]
 have:=flat_get strCells 1 (fun _=>rfl) l i 0 hi (by decide)
 simpa [strCells] using this
theorem own_frozen {B : Nat} {w : World} {g n c : Nat} {l : List ByteArray} (h : OwnStrs B w (.slice (some ⟨g,0,none⟩) n c) l) (i : Nat) : w.frozen? ⟨g,i,none⟩ = false:=ownsRow_frozen h.1 rfl i
theorem own_set {B : Nat} {w : World} {g n c : Nat} {l : List ByteArray} (h : OwnStrs B w (.slice (some ⟨g,0,none⟩) n c) l) (i : Nat) (hi : i < l.length) (x : ByteArray) (hx : x.size <= maxLen) :
  OwnStrs B (w.setCell ⟨g,i,none⟩ (.string x)) (.slice (some ⟨g,0,none⟩) n c) (l.set i x):=by
 have:=OwnL.setOne (E:=9) (k:=1) (cells:=strCells) (I:=strIn) strIn_inner (fun _=>rfl) h rfl i 0 hi (by decide) (.string x) x rfl hx
 simpa using this
theorem OwnStrs.ref {B : Nat} {w : World} {v : Value} {l : List ByteArray} (h : OwnStrs B w v l) (h0 : 0 < l.length) : ∃ g c,v = .slice (some ⟨g,0,none⟩) l.length c /\ B <= g /\ g < w.heap.size /\ l.length <= c /\ c <= maxLen:=by
 rcases h.1.2 with ⟨e,h1⟩ | ⟨g,cap,cur,e,hb,hg,h1,h2,h3⟩
 ·omega
 ·exact ⟨g,cap,e,hb,(Array.getElem?_eq_some_iff.1 hg).1,h1,h2⟩
theorem own_len {B : Nat} {w : World} {v : Value} {l : List ByteArray} (h : OwnStrs B w v l) : ∃ A c,v = .slice A l.length c /\ l.length <= c /\ c <= maxLen:=by
 rcases h.1.2 with ⟨e,h1⟩ | ⟨g,cap,cur,e,hb,hg,h1,h2,h3⟩
 ·exact ⟨none,0,by rw [e,h1],by omega,by unfold maxLen; omega⟩
 ·exact ⟨_,cap,e,h1,h2⟩
theorem name_of (s : ByteArray) (w : World) (hs : s.size <= 1000000) :
  Calls Tryz.prog 31 #[.string s] w fun e w'=>e = .returned (.tuple #[.string (nameP s).1,.bool (nameP s).2]) /\ Below w.heap.size w w':=by
 have hr:=Hd (right_any s w hs)
 have hok : Hid (nameOk s = (decide (foldOf s = s) && decide (0 < (wordsOf s).length) && decide ((wordsOf s).length <= 4) && (wordsOf s).all fun x=>clsB x 2)):=Hd rfl
 have hP : Hid (nameP s = if nameOk s then (joinS ((wordsOf s).map fixW),true) else (⟨#[]⟩,false)):=Hd rfl
 go_enter Tryz.func31,Tryz.ntmps31
 go_wp2_with fail
 refine hr.out.mono ?_
 rintro e w1 ⟨rfl,hb1⟩
 by_cases hf : foldOf s = s
 case neg=>
  have hd : decide (foldOf s = s) = false:=decide_eq_false hf
  rw [hd] at hok
  have hno : Hid (nameOk s = false):=Hd (by rw [hok.out]; rfl)
  clear hf
  go_wp2
  go_ret2
  exact ⟨by rw [hP.out,hno.out]; rfl,hb1⟩
 have hd : decide (foldOf s = s) = true:=decide_eq_true hf
 rw [hd] at hok
 clear hf
 have hwd:=Hd (words_any s w1 hs)
 have hs1:=hb1.size
 have hws:=Hd (show ∀ x ∈ wordsOf s,x.size <= 1000000 from fun x hx=>Nat.le_trans (wordsOf_size hx) hs)
 go_wp2_with fail
 refine hwd.out.mono ?_
 rintro e w2 ⟨v,rfl,hv,hb2⟩
 have hb12:=hb1.trans (hb2.mono hs1)
 clear hwd
 generalize wordsOf s = ws at *
 obtain ⟨A,c,rfl,hlc,hcm⟩:=own_len hv
 unfold maxLen at hcm
 by_cases h0 : ws.length = 0
 ·have e0 : ((ws.length : Int) == 0) = true:=by simp [h0]
  have hno : Hid (nameOk s = false):=Hd (by rw [hok.out,h0]; rfl)
  go_wp2
  go_ret2
  exact ⟨by rw [hP.out,hno.out]; rfl,hb12⟩
 have e0 : ((ws.length : Int) == 0) = false:=beq_eq_false_iff_ne.2 (by omega)
 by_cases h4 : 4 < ws.length
 ·have e4 : decide ((4 : Int) < (ws.length : Int)) = true:=decide_eq_true (by omega)
  have hno : Hid (nameOk s = false):=Hd (by rw [hok.out,decide_eq_false (show ¬ ws.length <= 4 from by omega)]; simp)
  go_wp2
  go_ret2
  exact ⟨by rw [hP.out,hno.out]; rfl,hb12⟩
 have e4 : decide ((4 : Int) < (ws.length : Int)) = false:=decide_eq_false (by omega)
 have n4 : (ws.length : Int) <= 4:=by omega
 have hok2 : Hid (nameOk s = ws.all fun x=>clsB x 2):=Hd (by rw [hok.out,decide_eq_true (show 0 < ws.length from by omega),decide_eq_true (show ws.length <= 4 from by omega)]; simp)
 obtain ⟨g,c2,he,hg1,hg2,_,_⟩:=hv.ref (Nat.pos_of_ne_zero h0)
 obtain ⟨rfl,-,rfl⟩:=Value.slice.inj he
 clear he hok h0 h4
 have hv':=Hd (hv.base strIn_inner hs1)
 clear hv
 go_wp2
 go_loopw [23] (fun iv wr=>∃ k : Nat,k <= ws.length /\ iv = .int .i64 k /\ Below w.heap.size w wr /\ OwnStrs w.heap.size wr (.slice (some ⟨g,0,none⟩) ws.length c) (fixTo ws k) /\ Hid (∀ i,i < k -> ∀ x,ws[i]? = some x -> clsB x 2 = true)) (fun iv _=>ws.length - (intOf iv).toNat)
 case atStart=>exact ⟨0,by omega,rfl,hb12,hv'.out,Hd fun i hi=>absurd hi (by omega)⟩
 case round=>
  obtain ⟨k,hk,rfl,hbw,hown,hall⟩:=hrel
  rename World=>wr
  have hs0:=hbw.size
  have n0 : (0 : Int) <= (k : Int):=by omega
  have hlen:=Hd (fixTo_len ws k hk)
  have hown':=Hd hown
  clear hown
  by_cases hlt : k < ws.length
  ·have n1 : (k : Int) < (ws.length : Int):=by omega
   have c1:=own_cell hown'.out k ws[k] (fixTo_at ws k hlt)
   have hx:=hws.out ws[k] (List.getElem_mem hlt)
   have hx0:=Hd (List.getElem?_eq_getElem hlt)
   have hsc:=Hd (fixTo_succ ws k hlt)
   generalize ws[k] = x at c1 hx hx0 hsc
   have hcl:=Hd (classes_any x wr hx)
   have hlg:=Hd (longs_any 5 x)
   have q:=cls_eq x 2 (by omega)
   simp only [Nat.reducePow,Int.cast_ofNat_Int] at q
   have hgl:=hown'.out.block_lt (g:=g) rfl
   go_wp2_with fail
   refine hcl.out.mono ?_
   rintro e w3 ⟨rfl,hb3⟩
   cases hc2 : clsB x 2 with
   | false=>
    rw [hc2] at q
    have hno : Hid (nameOk s = false):=Hd (by
     rw [hok2.out,List.all_eq_false]
     exact ⟨x,List.mem_of_getElem? hx0.out,by simp [hc2]⟩)
    have hend:=hbw.trans (hb3.mono hs0)
    clear hc2
    go_wp2
    go_ret2
    exact ⟨by rw [hP.out,hno.out]; rfl,hend⟩
   | true=>
    rw [hc2] at q
    have hall' : Hid (∀ i,i < k + 1 -> ∀ x,ws[i]? = some x -> clsB x 2 = true):=Hd fun i hi y hy=>by
     rcases Nat.lt_or_ge i k with h | h
     ·exact hall.out i h y hy
     ·obtain rfl : i = k:=by omega
      rw [hx0.out] at hy
      cases hy
      exact hc2
    have hend3:=hbw.trans (hb3.mono hs0)
    have hs3:=hend3.size
    clear hc2 hcl
    go_wp2_with fail
    refine (hlg.out _).mono ?_
    rintro e w4 ⟨lv,rfl,hlv,hb4⟩
    have hw4 : Below wr.heap.size wr w4:=hb3.trans (hb4.mono hb3.size)
    have hend4:=hbw.trans (hw4.mono hs0)
    have hs4:=hend4.size
    have hown4:=Hd (hown'.out.keep strIn_inner (Keeps.of_below hw4 _))
    clear hlg
    have hfx : Hid (fixW x = (longsOf 5 x).headD x):=Hd rfl
    have hlsz:=Hd (fun l (h : l ∈ longsOf 5 x)=>longsOf_size (kd:=5) (s:=x) h)
    generalize longsOf 5 x = ls at *
    cases ls with
    | nil=>
     obtain ⟨A,cl,rfl⟩:=hlv.form_
     have hset : Hid (fixTo ws (k + 1) = fixTo ws k):=Hd (by
      rw [<- hsc.out,hfx.out]
      exact set_same (by rw [fixTo_at ws k hlt]; exact (List.getElem?_eq_getElem hlt).symm.trans hx0.out))
     clear hsc hfx
     go_wp2
     go_roundw
     case rel=>exact ⟨k + 1,by omega,by go_num,hend4,by rw [hset.out]; exact hown4.out,hall'⟩
     case measure=>simp [intOf]; omega
    | cons l ls=>
     obtain ⟨g2,cl,rfl,hg21,hg22,_,_⟩:=hlv.ref (by simp)
     have d1:=own_cell hlv 0 l rfl
     have f1:=own_frozen hown4.out k
     have c4:=own_cell hown4.out k x (by rw [fixTo_at ws k hlt]; exact (List.getElem?_eq_getElem hlt).symm.trans hx0.out)
     have hls:=hlsz.out l (List.mem_cons_self ..)
     have hst:=Hd (own_set hown4.out k (by rw [hlen.out]; exact hlt) l (by unfold maxLen; omega))
     have hset : Hid ((fixTo ws k).set k l = fixTo ws (k + 1)):=Hd (by rw [<- hsc.out,hfx.out]; rfl)
     have hend5:=Hd (hend4.setCell (p:=⟨g,k,none⟩) hgl.1 (.string l))
     have n5 : (0 : Int) < ((ls.length : Int) + 1):=by omega
     have n6 : 0 < ls.length + 1:=by omega
     clear hsc hfx
     go_wp2
     go_roundw
     case rel=>exact ⟨k + 1,by omega,by go_num,hend5.out,by rw [<- hset.out]; exact hst.out,hall'⟩
     case measure=>simp [intOf]; omega
  ·obtain rfl : k = ws.length:=by omega
   have hyes : Hid (nameOk s = true):=Hd (by
    rw [hok2.out,List.all_eq_true]
    intro x hx
    obtain ⟨i,hi,rfl⟩:=List.mem_iff_getElem.1 hx
    exact hall.out i hi _ (List.getElem?_eq_getElem hi))
   have hfin:=fixTo_all ws
   rw [hfin] at hown' hlen
   have hmsz:=Hd (show ∀ x ∈ ws.map fixW,x.size <= 1000020 from fun x hx=>by
    obtain ⟨y,hy,rfl⟩:=List.mem_map.1 hx
    exact Nat.le_trans (fixW_size y) (by have:=hws.out y hy; omega))
   have hgl:=hown'.out.block_lt (g:=g) rfl
   have hjl:=join_len [32] 1000020 ((ws.map fixW).map (·.data.toList)) (fun l hl=>by
    obtain ⟨y,hy,rfl⟩:=List.mem_map.1 hl
    have:=hmsz.out y hy
    rw [<- Lib.size_eq]; exact this)
   have hjn : Hid (Calls Tryz.prog 29 #[.slice (some ⟨g,0,none⟩) (ws.map fixW).length c,.string ⟨#[32]⟩] wr fun e w'=>e = .returned (.string (joinS (ws.map fixW))) /\ Below wr.heap.size wr w'):=Hd (Sh.strings_Join g 0 c (ws.map fixW) ⟨#[32]⟩ wr (fun j x hx=>by rw [Nat.zero_add]; exact own_cell hown'.out j x hx) hgl.2 (by rw [hlen.out]; omega) (by rw [hlen.out]; exact hlc) (by
    refine Nat.le_trans hjl ?_
    rw [List.length_map,hlen.out]
    simp
    omega))
   rw [hlen.out] at hjn
   clear hjl hfin
   go_wp2_with fail
   refine hjn.out.mono ?_
   rintro e w5 ⟨rfl,hb5⟩
   have hend:=hbw.trans (hb5.mono hs0)
   clear hjn
   go_wp2
   go_ret2
   exact ⟨by rw [hP.out,hyes.out]; rfl,hend⟩
end
section
open Go.RowKit Go.Maps
theorem classed_any (c : Int) (w : World) : Calls Tryz.prog 102 #[.int .u16 c] w fun e w'=>e = .returned (.func (.func 103) #[] #[.pointer (some ⟨w.heap.size,0,none⟩)]) /\ w' = w.alloc (.cells #[.int .u16 c] 37):=by
 go_enter Tryz.func102,Tryz.ntmps102
 go_wp2
 go_ret
 exact ⟨rfl,rfl⟩
theorem long_any (c : Int) (w : World) : Calls Tryz.prog 104 #[.int .u8 c] w fun e w'=>e = .returned (.func (.func 105) #[] #[.pointer (some ⟨w.heap.size,0,none⟩)]) /\ w' = w.alloc (.cells #[.int .u8 c] 5):=by
 go_enter Tryz.func104,Tryz.ntmps104
 go_wp2
 go_ret
 exact ⟨rfl,rfl⟩
theorem classed1_any (s : ByteArray) (i : Nat) (hi : i < 14) (g : Nat) (w : World) (hs : s.size <= 1000000) (hg : w.cell? ⟨g,0,none⟩ = some (.int .u16 ((2 ^ i : Nat) : Int))) :
  Calls Tryz.prog 103 #[.string s,.pointer (some ⟨g,0,none⟩)] w fun e w'=>e = .returned (.bool (clsB s i)) /\ Below w.heap.size w w':=by
 have q:=cls_ne s i hi
 have hl:=World.block_lt_of_cell? _ _ hg
 generalize ((2 ^ i : Nat) : Int) = n at *
 have hcl:=Hd (fun (u : Ups w)=>classes_any s u.wld hs)
 have hc:=fun (u : Ups w)=>u.cellAt hg hl
 clear hg
 go_enter Tryz.func103,Tryz.ntmps103
 go_wp2_with fail
 refine wp_region_ups (by kernel_rfl) (by kernel_rfl) ?_
 repeat (go_big_quiet_step (first | (go_at_call 72; exact calls_ups (hcl.out _))))
 refine wpQuiet_nil ?_
 rintro _ ⟨u,rfl⟩
 go_wp2
 go_ret
 exact ⟨rfl,u.up⟩
theorem long1_any (s : ByteArray) (kd : Int) (g : Nat) (w : World) (hg : w.cell? ⟨g,0,none⟩ = some (.int .u8 kd)) :
  Calls Tryz.prog 105 #[.string s,.pointer (some ⟨g,0,none⟩)] w fun e w'=>e = .returned (.bool (shortOf kd s).2) /\ Below w.heap.size w w':=by
 have hc:=Hd (short_any kd s w)
 go_enter Tryz.func105,Tryz.ntmps105
 go_wp2_with fail
 refine hc.out.mono ?_
 rintro e w' ⟨rfl,hb⟩
 go_wp2
 go_ret
 exact ⟨rfl,hb⟩
def isNameP (s : ByteArray) : Bool:=(nameP s).2 && decide ((nameP s).1 = s)
theorem isName_of (s : ByteArray) (w : World) (hs : s.size <= 1000000) : Calls Tryz.prog 107 #[.string s] w fun e w'=>e = .returned (.bool (isNameP s)) /\ Below w.heap.size w w':=by
 have hc:=Hd (name_of s w hs)
 have hd : Hid (isNameP s = ((nameP s).2 && ((nameP s).1.toList == s.toList))):=Hd (by unfold isNameP; rw [tl_beq])
 go_enter Tryz.func107,Tryz.ntmps107
 go_wp2_with fail
 refine hc.out.mono ?_
 rintro e w' ⟨rfl,hb⟩
 clear hc
 generalize nameP s = p at *
 obtain ⟨n,ok⟩:=p
 simp only at hd
 cases ok with
 | false=>
  go_wp2
  go_ret
  exact ⟨by rw [hd.out]; rfl,hb⟩
 | true=>
  go_wp2
  go_ret
  exact ⟨by rw [hd.out]; rfl,hb⟩
def letter1 (s : ByteArray) : Bool:=decide (s.size = 1) && isLetter (byteAt s 0)
theorem letter1_any (s : ByteArray) (w : World) : Calls Tryz.prog 108 #[.string s] w fun e w'=>e = .returned (.bool (letter1 s)) /\ w' = w:=by
 by_cases h1 : s.size = 1
 ·have hlt : 0 < s.size:=by omega
  have e1 : ((s.size : Int) == 1) = true:=by simp [h1]
  have hb : byteAt s 0 = (s[0]'hlt).toNat:=by unfold byteAt; rw [dif_pos hlt]
  have hd : Hid (letter1 s = (decide ((65 : Int) <= ((s[0]'hlt).toNat : Int)) && decide (((s[0]'hlt).toNat : Int) <= (90 : Int)))):=Hd (by unfold letter1; rw [decide_eq_true h1,hb]; rfl)
  clear h1 hb
  cases b1 : decide ((65 : Int) <= ((s[0]'hlt).toNat : Int)) <;> cases b2 : decide (((s[0]'hlt).toNat : Int) <= (90 : Int)) <;>
   (rw [b1,b2] at hd; go_enter Tryz.func108,Tryz.ntmps108; go_wp2; go_ret; exact ⟨ret_bool hd.out.symm,rfl⟩)
 ·have e1 : ((s.size : Int) == 1) = false:=beq_eq_false_iff_ne.2 (by omega)
  have hd : Hid (letter1 s = false):=Hd (by unfold letter1; rw [decide_eq_false h1]; rfl)
  clear h1
  go_enter Tryz.func108,Tryz.ntmps108
  go_wp2
  go_ret
  exact ⟨ret_bool hd.out.symm,rfl⟩
def isCodeP (c : Int) (s : ByteArray) : Bool:=(codeP c s).2 && decide ((codeP c s).1 = s)
theorem isCode_of (c : Int) (s : ByteArray) (g : Nat) (w : World) (hs : s.size <= 1000000) (hg : w.cell? ⟨g,0,none⟩ = some (.int .u8 c)) : Calls Tryz.prog 109 #[.string s,.pointer (some ⟨g,0,none⟩)] w fun e w'=>e = .returned (.bool (isCodeP c s)) /\ Below w.heap.size w w':=by
 have hc:=Hd (code_any c s w hs)
 have hd : Hid (isCodeP c s = ((codeP c s).2 && ((codeP c s).1.toList == s.toList))):=Hd (by unfold isCodeP; rw [tl_beq])
 go_enter Tryz.func109,Tryz.ntmps109
 go_wp2_with fail
 refine hc.out.mono ?_
 rintro e w' ⟨rfl,hb⟩
 clear hc
 generalize codeP c s = p at *
 obtain ⟨n,ok⟩:=p
 simp only at hd
 cases ok with
 | false=>
  go_wp2
  go_ret
  exact ⟨by rw [hd.out]; rfl,hb⟩
 | true=>
  go_wp2
  go_ret
  exact ⟨by rw [hd.out]; rfl,hb⟩
end
end Go.Proofs.YteclineblddpbaaGreatDoorR
