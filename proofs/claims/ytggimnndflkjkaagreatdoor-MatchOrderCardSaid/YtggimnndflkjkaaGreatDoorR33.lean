import Derived.Test.YtggimnndflkjkaaGreatDoorR01
import Derived.Test.YtggimnndflkjkaaGreatDoorR05
import Derived.Test.YtggimnndflkjkaaGreatDoorR10
import Derived.Test.YtggimnndflkjkaaGreatDoorR24
import Derived.Shelf.SlSortCmp.WholeK
import Derived.Shelf.SlSortCmp.NoneTotal
import Derived.Shelf.Spec.SlicesGrow
import Derived.Test.YtggimnndflkjkaaGreatDoorProg
import Derived.BigRegion
import Derived.Deep.DeepCutAuto
import Derived.Deep.Cut
set_option linter.all false
set_option maxRecDepth 100000
set_option maxHeartbeats 0
namespace Go.Proofs.YtggimnndflkjkaaGreatDoor
section
open Go.Shelf
def Sh.sortNotes_ren : Go.Shelf.Ren:=⟨fun | 6=>58 | 15=>102 | 14=>101 | 28=>167 | 29=>168 | 20=>159 | 21=>160 | 22=>161 | 23=>162 | 24=>163 | 25=>164 | 26=>165 | 27=>166 | 46=>196 | 47=>197 | 48=>198 | 49=>199 | 50=>200 | 57=>224 | n=>n,fun | 22=>41 | 24=>48 | 25=>139 | 3=>3 | 39=>175 | 0=>0 | 53=>232 | 55=>179 | 4=>4 | 46=>226 | 45=>225 | 50=>147 | 5=>5 | 9=>9 | 66=>260 | 70=>264 | 76=>283 | 77=>284 | n=>n,fun | n=>n⟩
theorem Sh.sortNotes : Go.Proofs.SlLaysF0.n6 Tryz.prog Sh.sortNotes_ren:={
 mixed:=by kernel_rfl
 f6:=⟨Tryz.f58.name,by decide,Tryz.func58.trans (congrArg some (by kernel_rfl))⟩
 f14:=⟨Tryz.f101.name,by decide,Tryz.func101.trans (congrArg some (by kernel_rfl))⟩
 f15:=Tryz.func102.trans (congrArg some (by kernel_rfl))
 f20:=⟨Tryz.f159.name,by decide,Tryz.func159.trans (congrArg some (by kernel_rfl))⟩
 f21:=⟨Tryz.f160.name,by decide,Tryz.func160.trans (congrArg some (by kernel_rfl))⟩
 f22:=⟨Tryz.f161.name,by decide,Tryz.func161.trans (congrArg some (by kernel_rfl))⟩
 f23:=⟨Tryz.f162.name,by decide,Tryz.func162.trans (congrArg some (by kernel_rfl))⟩
 f24:=⟨Tryz.f163.name,by decide,Tryz.func163.trans (congrArg some (by kernel_rfl))⟩
 f25:=⟨Tryz.f164.name,by decide,Tryz.func164.trans (congrArg some (by kernel_rfl))⟩
 f26:=⟨Tryz.f165.name,by decide,Tryz.func165.trans (congrArg some (by kernel_rfl))⟩
 f27:=⟨Tryz.f166.name,by decide,Tryz.func166.trans (congrArg some (by kernel_rfl))⟩
 f28:=Tryz.func167.trans (congrArg some (by kernel_rfl))
 f29:=Tryz.func168.trans (congrArg some (by kernel_rfl))
 f46:=⟨Tryz.f196.name,by decide,Tryz.func196.trans (congrArg some (by kernel_rfl))⟩
 f47:=Tryz.func197.trans (congrArg some (by kernel_rfl))
 f48:=Tryz.func198.trans (congrArg some (by kernel_rfl))
 f49:=⟨Tryz.f199.name,by decide,Tryz.func199.trans (congrArg some (by kernel_rfl))⟩
 f50:=⟨Tryz.f200.name,by decide,Tryz.func200.trans (congrArg some (by kernel_rfl))⟩
 f57:=⟨Tryz.f224.name,by decide,Tryz.func224.trans (congrArg some (by kernel_rfl))⟩
 t0:=Tryz.underlying0
 a0:=Tryz.isAgg0
 z0:=Tryz.sizeOf0
 v0:=Tryz.zeroValue0
 t3:=Tryz.underlying3
 a3:=Tryz.isAgg3
 z3:=Tryz.sizeOf3
 v3:=Tryz.zeroValue3
 t4:=Tryz.underlying4
 a4:=Tryz.isAgg4
 z4:=Tryz.sizeOf4
 v4:=Tryz.zeroValue4
 t5:=Tryz.underlying5
 a5:=Tryz.isAgg5
 z5:=Tryz.sizeOf5
 v5:=Tryz.zeroValue5
 t9:=Tryz.underlying9
 a9:=Tryz.isAgg9
 z9:=Tryz.sizeOf9
 v9:=Tryz.zeroValue9
 t22:=Tryz.underlying41
 a22:=Tryz.isAgg41
 z22:=Tryz.sizeOf41
 v22:=Tryz.zeroValue41
 t25:=Tryz.underlying139
 a25:=Tryz.isAgg139
 z25:=Tryz.sizeOf139
 v25:=Tryz.zeroValue139
 t39:=Tryz.underlying175
 a39:=Tryz.isAgg175
 z39:=Tryz.sizeOf175
 v39:=Tryz.zeroValue175
 t45:=Tryz.underlying225
 a45:=Tryz.isAgg225
 z45:=Tryz.sizeOf225
 v45:=Tryz.zeroValue225
 t46:=Tryz.underlying226
 a46:=Tryz.isAgg226
 z46:=Tryz.sizeOf226
 v46:=Tryz.zeroValue226
 t50:=Tryz.underlying147
 a50:=Tryz.isAgg147
 z50:=Tryz.sizeOf147
 v50:=Tryz.zeroValue147
 t53:=Tryz.underlying232
 a53:=Tryz.isAgg232
 z53:=Tryz.sizeOf232
 v53:=Tryz.zeroValue232
 t55:=Tryz.underlying179
 a55:=Tryz.isAgg179
 z55:=Tryz.sizeOf179
 v55:=Tryz.zeroValue179
 t66:=Tryz.underlying260
 a66:=Tryz.isAgg260
 z66:=Tryz.sizeOf260
 v66:=Tryz.zeroValue260
 t70:=Tryz.underlying264
 a70:=Tryz.isAgg264
 z70:=Tryz.sizeOf264
 v70:=Tryz.zeroValue264
 t76:=Tryz.underlying283
 a76:=Tryz.isAgg283
 z76:=Tryz.sizeOf283
 v76:=Tryz.zeroValue283
 t77:=Tryz.underlying284
 a77:=Tryz.isAgg284
 z77:=Tryz.sizeOf284
 v77:=Tryz.zeroValue284 }
def Sh.sortMatches_ren : Go.Shelf.Ren:=⟨fun | 6=>62 | 15=>102 | 14=>104 | 28=>167 | 29=>168 | 20=>169 | 21=>170 | 22=>171 | 23=>172 | 24=>173 | 25=>174 | 26=>175 | 27=>176 | 46=>201 | 47=>197 | 48=>198 | 49=>202 | 50=>203 | 57=>225 | n=>n,fun | 22=>51 | 24=>43 | 25=>144 | 3=>3 | 39=>175 | 0=>0 | 53=>232 | 55=>179 | 4=>4 | 46=>226 | 45=>225 | 50=>147 | 5=>5 | 9=>9 | 66=>260 | 70=>264 | 76=>283 | 77=>284 | n=>n,fun | n=>n⟩
theorem Sh.sortMatches : Go.Proofs.SlLaysF0.n6 Tryz.prog Sh.sortMatches_ren:={
 mixed:=by kernel_rfl
 f6:=⟨Tryz.f62.name,by decide,Tryz.func62.trans (congrArg some (by kernel_rfl))⟩
 f14:=⟨Tryz.f104.name,by decide,Tryz.func104.trans (congrArg some (by kernel_rfl))⟩
 f15:=Tryz.func102.trans (congrArg some (by kernel_rfl))
 f20:=⟨Tryz.f169.name,by decide,Tryz.func169.trans (congrArg some (by kernel_rfl))⟩
 f21:=⟨Tryz.f170.name,by decide,Tryz.func170.trans (congrArg some (by kernel_rfl))⟩
 f22:=⟨Tryz.f171.name,by decide,Tryz.func171.trans (congrArg some (by kernel_rfl))⟩
 f23:=⟨Tryz.f172.name,by decide,Tryz.func172.trans (congrArg some (by kernel_rfl))⟩
 f24:=⟨Tryz.f173.name,by decide,Tryz.func173.trans (congrArg some (by kernel_rfl))⟩
 f25:=⟨Tryz.f174.name,by decide,Tryz.func174.trans (congrArg some (by kernel_rfl))⟩
 f26:=⟨Tryz.f175.name,by decide,Tryz.func175.trans (congrArg some (by kernel_rfl))⟩
 f27:=⟨Tryz.f176.name,by decide,Tryz.func176.trans (congrArg some (by kernel_rfl))⟩
 f28:=Tryz.func167.trans (congrArg some (by kernel_rfl))
 f29:=Tryz.func168.trans (congrArg some (by kernel_rfl))
 f46:=⟨Tryz.f201.name,by decide,Tryz.func201.trans (congrArg some (by kernel_rfl))⟩
 f47:=Tryz.func197.trans (congrArg some (by kernel_rfl))
 f48:=Tryz.func198.trans (congrArg some (by kernel_rfl))
 f49:=⟨Tryz.f202.name,by decide,Tryz.func202.trans (congrArg some (by kernel_rfl))⟩
 f50:=⟨Tryz.f203.name,by decide,Tryz.func203.trans (congrArg some (by kernel_rfl))⟩
 f57:=⟨Tryz.f225.name,by decide,Tryz.func225.trans (congrArg some (by kernel_rfl))⟩
 t0:=Tryz.underlying0
 a0:=Tryz.isAgg0
 z0:=Tryz.sizeOf0
 v0:=Tryz.zeroValue0
 t3:=Tryz.underlying3
 a3:=Tryz.isAgg3
 z3:=Tryz.sizeOf3
 v3:=Tryz.zeroValue3
 t4:=Tryz.underlying4
 a4:=Tryz.isAgg4
 z4:=Tryz.sizeOf4
 v4:=Tryz.zeroValue4
 t5:=Tryz.underlying5
 a5:=Tryz.isAgg5
 z5:=Tryz.sizeOf5
 v5:=Tryz.zeroValue5
 t9:=Tryz.underlying9
 a9:=Tryz.isAgg9
 z9:=Tryz.sizeOf9
 v9:=Tryz.zeroValue9
 t22:=Tryz.underlying51
 a22:=Tryz.isAgg51
 z22:=Tryz.sizeOf51
 v22:=Tryz.zeroValue51
 t25:=Tryz.underlying144
 a25:=Tryz.isAgg144
 z25:=Tryz.sizeOf144
 v25:=Tryz.zeroValue144
 t39:=Tryz.underlying175
 a39:=Tryz.isAgg175
 z39:=Tryz.sizeOf175
 v39:=Tryz.zeroValue175
 t45:=Tryz.underlying225
 a45:=Tryz.isAgg225
 z45:=Tryz.sizeOf225
 v45:=Tryz.zeroValue225
 t46:=Tryz.underlying226
 a46:=Tryz.isAgg226
 z46:=Tryz.sizeOf226
 v46:=Tryz.zeroValue226
 t50:=Tryz.underlying147
 a50:=Tryz.isAgg147
 z50:=Tryz.sizeOf147
 v50:=Tryz.zeroValue147
 t53:=Tryz.underlying232
 a53:=Tryz.isAgg232
 z53:=Tryz.sizeOf232
 v53:=Tryz.zeroValue232
 t55:=Tryz.underlying179
 a55:=Tryz.isAgg179
 z55:=Tryz.sizeOf179
 v55:=Tryz.zeroValue179
 t66:=Tryz.underlying260
 a66:=Tryz.isAgg260
 z66:=Tryz.sizeOf260
 v66:=Tryz.zeroValue260
 t70:=Tryz.underlying264
 a70:=Tryz.isAgg264
 z70:=Tryz.sizeOf264
 v70:=Tryz.zeroValue264
 t76:=Tryz.underlying283
 a76:=Tryz.isAgg283
 z76:=Tryz.sizeOf283
 v76:=Tryz.zeroValue283
 t77:=Tryz.underlying284
 a77:=Tryz.isAgg284
 z77:=Tryz.sizeOf284
 v77:=Tryz.zeroValue284 }
def Sh.sortPlaces_ren : Go.Shelf.Ren:=⟨fun | 6=>111 | 15=>102 | 14=>181 | 28=>167 | 29=>168 | 20=>206 | 21=>207 | 22=>208 | 23=>209 | 24=>210 | 25=>211 | 26=>212 | 27=>213 | 46=>226 | 47=>197 | 48=>198 | 49=>227 | 50=>228 | 57=>240 | n=>n,fun | 22=>64 | 24=>69 | 25=>186 | 3=>3 | 39=>175 | 0=>0 | 53=>232 | 55=>179 | 4=>4 | 46=>226 | 45=>225 | 50=>147 | 5=>5 | 9=>9 | 66=>260 | 70=>264 | 76=>283 | 77=>284 | n=>n,fun | n=>n⟩
theorem Sh.sortPlaces : Go.Proofs.SlLaysF0.n6 Tryz.prog Sh.sortPlaces_ren:={
 mixed:=by kernel_rfl
 f6:=⟨Tryz.f111.name,by decide,Tryz.func111.trans (congrArg some (by kernel_rfl))⟩
 f14:=⟨Tryz.f181.name,by decide,Tryz.func181.trans (congrArg some (by kernel_rfl))⟩
 f15:=Tryz.func102.trans (congrArg some (by kernel_rfl))
 f20:=⟨Tryz.f206.name,by decide,Tryz.func206.trans (congrArg some (by kernel_rfl))⟩
 f21:=⟨Tryz.f207.name,by decide,Tryz.func207.trans (congrArg some (by kernel_rfl))⟩
 f22:=⟨Tryz.f208.name,by decide,Tryz.func208.trans (congrArg some (by kernel_rfl))⟩
 f23:=⟨Tryz.f209.name,by decide,Tryz.func209.trans (congrArg some (by kernel_rfl))⟩
 f24:=⟨Tryz.f210.name,by decide,Tryz.func210.trans (congrArg some (by kernel_rfl))⟩
 f25:=⟨Tryz.f211.name,by decide,Tryz.func211.trans (congrArg some (by kernel_rfl))⟩
 f26:=⟨Tryz.f212.name,by decide,Tryz.func212.trans (congrArg some (by kernel_rfl))⟩
 f27:=⟨Tryz.f213.name,by decide,Tryz.func213.trans (congrArg some (by kernel_rfl))⟩
 f28:=Tryz.func167.trans (congrArg some (by kernel_rfl))
 f29:=Tryz.func168.trans (congrArg some (by kernel_rfl))
 f46:=⟨Tryz.f226.name,by decide,Tryz.func226.trans (congrArg some (by kernel_rfl))⟩
 f47:=Tryz.func197.trans (congrArg some (by kernel_rfl))
 f48:=Tryz.func198.trans (congrArg some (by kernel_rfl))
 f49:=⟨Tryz.f227.name,by decide,Tryz.func227.trans (congrArg some (by kernel_rfl))⟩
 f50:=⟨Tryz.f228.name,by decide,Tryz.func228.trans (congrArg some (by kernel_rfl))⟩
 f57:=⟨Tryz.f240.name,by decide,Tryz.func240.trans (congrArg some (by kernel_rfl))⟩
 t0:=Tryz.underlying0
 a0:=Tryz.isAgg0
 z0:=Tryz.sizeOf0
 v0:=Tryz.zeroValue0
 t3:=Tryz.underlying3
 a3:=Tryz.isAgg3
 z3:=Tryz.sizeOf3
 v3:=Tryz.zeroValue3
 t4:=Tryz.underlying4
 a4:=Tryz.isAgg4
 z4:=Tryz.sizeOf4
 v4:=Tryz.zeroValue4
 t5:=Tryz.underlying5
 a5:=Tryz.isAgg5
 z5:=Tryz.sizeOf5
 v5:=Tryz.zeroValue5
 t9:=Tryz.underlying9
 a9:=Tryz.isAgg9
 z9:=Tryz.sizeOf9
 v9:=Tryz.zeroValue9
 t22:=Tryz.underlying64
 a22:=Tryz.isAgg64
 z22:=Tryz.sizeOf64
 v22:=Tryz.zeroValue64
 t25:=Tryz.underlying186
 a25:=Tryz.isAgg186
 z25:=Tryz.sizeOf186
 v25:=Tryz.zeroValue186
 t39:=Tryz.underlying175
 a39:=Tryz.isAgg175
 z39:=Tryz.sizeOf175
 v39:=Tryz.zeroValue175
 t45:=Tryz.underlying225
 a45:=Tryz.isAgg225
 z45:=Tryz.sizeOf225
 v45:=Tryz.zeroValue225
 t46:=Tryz.underlying226
 a46:=Tryz.isAgg226
 z46:=Tryz.sizeOf226
 v46:=Tryz.zeroValue226
 t50:=Tryz.underlying147
 a50:=Tryz.isAgg147
 z50:=Tryz.sizeOf147
 v50:=Tryz.zeroValue147
 t53:=Tryz.underlying232
 a53:=Tryz.isAgg232
 z53:=Tryz.sizeOf232
 v53:=Tryz.zeroValue232
 t55:=Tryz.underlying179
 a55:=Tryz.isAgg179
 z55:=Tryz.sizeOf179
 v55:=Tryz.zeroValue179
 t66:=Tryz.underlying260
 a66:=Tryz.isAgg260
 z66:=Tryz.sizeOf260
 v66:=Tryz.zeroValue260
 t70:=Tryz.underlying264
 a70:=Tryz.isAgg264
 z70:=Tryz.sizeOf264
 v70:=Tryz.zeroValue264
 t76:=Tryz.underlying283
 a76:=Tryz.isAgg283
 z76:=Tryz.sizeOf283
 v76:=Tryz.zeroValue283
 t77:=Tryz.underlying284
 a77:=Tryz.isAgg284
 z77:=Tryz.sizeOf284
 v77:=Tryz.zeroValue284 }
def Sh.growNotes_ren : Go.Shelf.Ren:=⟨fun | 4=>100 | n=>n,fun | 22=>41 | 25=>48 | 3=>3 | 4=>4 | 9=>9 | 20=>20 | 0=>0 | n=>n,fun | n=>n⟩
theorem Sh.growNotes : Go.Proofs.Lays8.n4 Tryz.prog Sh.growNotes_ren:={
 mixed:=by kernel_rfl
 f4:=⟨Tryz.f100.name,by decide,Tryz.func100.trans (congrArg some (by kernel_rfl))⟩
 t0:=Tryz.underlying0
 a0:=Tryz.isAgg0
 z0:=Tryz.sizeOf0
 v0:=Tryz.zeroValue0
 t3:=Tryz.underlying3
 a3:=Tryz.isAgg3
 z3:=Tryz.sizeOf3
 v3:=Tryz.zeroValue3
 t4:=Tryz.underlying4
 a4:=Tryz.isAgg4
 z4:=Tryz.sizeOf4
 v4:=Tryz.zeroValue4
 t9:=Tryz.underlying9
 a9:=Tryz.isAgg9
 z9:=Tryz.sizeOf9
 v9:=Tryz.zeroValue9
 t20:=Tryz.underlying20
 a20:=Tryz.isAgg20
 z20:=Tryz.sizeOf20
 v20:=Tryz.zeroValue20
 t22:=Tryz.underlying41
 a22:=Tryz.isAgg41
 z22:=Tryz.sizeOf41
 v22:=Tryz.zeroValue41 }
end
section
open Go.RowKit
theorem zkH {x y : Int} (h : x < y) : Lib.compareInt x y = -1:=by unfold Lib.compareInt; rw [if_pos h]
theorem zkG {x y : Int} (h : y < x) : Lib.compareInt x y = 1:=by unfold Lib.compareInt; rw [if_neg (by omega),if_pos h]
theorem zkF (x : Int) : Lib.compareInt x x = 0:=by unfold Lib.compareInt; rw [if_neg (by omega),if_neg (by omega)]
theorem zoB (x : Int) (w : World) : Calls Tryz.prog 103 #[.int .u8 x] w fun e w'=>e = .returned (.bool false) /\ w' = w:=by
 go_enter Tryz.func103,Tryz.ntmps103;go_wp2;go_ret;simp
theorem zpU (x y : Int) (w : World) : Calls Tryz.prog 60 #[.int .u8 x,.int .u8 y] w fun e w'=>e = .returned (.int .i64 (Lib.compareInt x y)) /\ w' = w:=by
 have hx:=fun W=>zoB x W;have hy:=fun W=>zoB y W;rcases Int.lt_trichotomy x y with h | h | h
 ·rw [zkH h]
  go_enter Tryz.func60,Tryz.ntmps60;go_wp2_with (first | (go_at_call 103; (with_reducible refine (hx _).mono ?_); rintro e w' ⟨rfl,rfl⟩) | (go_at_call 103; (with_reducible refine (hy _).mono ?_); rintro e w' ⟨rfl,rfl⟩));go_ret;exact ⟨rfl,rfl⟩
 ·subst h
  rw [zkF];have h1 : ¬ x < x:=by omega
  have h2 : ¬ x > x:=by omega
  go_enter Tryz.func60,Tryz.ntmps60;go_wp2_with (go_at_call 103; (with_reducible refine (hx _).mono ?_); rintro e w' ⟨rfl,rfl⟩);go_ret;exact ⟨rfl,rfl⟩
 ·rw [zkG h]
  have h1 : ¬ x < y:=by omega
  have h2 : x > y:=h;go_enter Tryz.func60,Tryz.ntmps60;go_wp2_with (first | (go_at_call 103; (with_reducible refine (hx _).mono ?_); rintro e w' ⟨rfl,rfl⟩) | (go_at_call 103; (with_reducible refine (hy _).mono ?_); rintro e w' ⟨rfl,rfl⟩));go_ret;exact ⟨rfl,rfl⟩
def orI : List Int -> Int
 | []=>0
 | x :: t=>if x ≠ 0 then x else orI t
theorem zxk (l : List Int) (k : Nat) (h : k < l.length) : orI (l.drop k) = if l.getD k 0 ≠ 0 then l.getD k 0 else orI (l.drop (k + 1)):=by
 rw [zaI l 0 k h,orI]
theorem zzF (l : List Int) (b off c : Nat) (w : World) (hc : ∀ i,i < l.length -> w.cell? ⟨b,off + i,none⟩ = some (.int .i64 (l.getD i 0))) (hl : l.length <= 1000) :
  Calls Tryz.prog 64 #[.slice (some ⟨b,off,none⟩) l.length c] w fun e w'=>e = .returned (.int .i64 (orI l)) /\ w' = w:=by
 have hc':=Hd hc;clear hc;go_enter Tryz.func64,Tryz.ntmps64;go_wp2
 go_loop [5,8] (fun _ iv=>∃ k : Nat,k <= l.length /\ iv = .int .i64 k /\ orI (l.drop k) = orI l) (fun _ iv=>l.length - (intOf iv).toNat)
 case atStart=>exact ⟨0,by omega,rfl,rfl⟩
 case round=>
  obtain ⟨k,hk,rfl,ho0⟩:=hrel;have ho:=Hd ho0;clear ho0;by_cases hlt : k < l.length
  ·have h1:=hc'.out k hlt
   have hd:=Hd (zxk l k hlt);generalize l.getD k 0 = x at *;by_cases hx : x = 0
   ·have hx2 : (x != 0) = false:=by simp [hx]
    have e:=Hd hx;clear hx;go_wp2
    go_round
    case rel=>exact ⟨k + 1,by omega,by go_num,by rw [<- ho.out,hd.out,if_neg (by simp [e.out])]⟩
    case measure=>simp [intOf]; omega
   ·have hx2 : (x != 0) = true:=by simp [hx]
    have e:=Hd hx;clear hx;go_wp2;go_ret;exact ⟨zbO (by rw [<- ho.out,hd.out,if_pos e.out]),rfl⟩
  ·obtain rfl : k = l.length:=by omega
   go_wp2;go_ret;exact ⟨zbO (by rw [<- ho.out]; simp [orI]),rfl⟩
theorem zjm (x y : Int) (w : World) : Calls Tryz.prog 65 #[.int .i64 x,.int .i64 y] w fun e w'=>e = .returned (.int .i64 (Lib.compareInt x y)) /\ w' = w:=Sh.cmp_Compare_int x y w
def ztY (v : Value) (w : World) (e : Ending) (w' : World) : Prop:=e = .returned v /\ ∃ q os,w' = Go.Sort.grow (w.drewN q) os
theorem zns {v : Value} {w w' : World} {e : Ending} (q : Nat) (os : Array Obj) (he : e = .returned v) (hw : w' = Go.Sort.grow (w.drewN q) os) : ztY v w e w':=⟨he,q,os,hw⟩
theorem zuq (k1 s1 c1 k2 s2 c2 : Int) (w : World) : Calls Tryz.prog 59 #[.agg #[.int .u8 k1,.int .u8 s1,.int .i64 c1],.agg #[.int .u8 k2,.int .u8 s2,.int .i64 c2]] w (ztY (.int .i64 (Lib.compareInt k1 k2)) w):=by
 have hcon:=fun W=>zpU k1 k2 W;generalize Lib.compareInt k1 k2 = r at hcon ⊢;go_enter Tryz.func59,Tryz.ntmps59;go_wp2_with (go_at_call 60; (with_reducible refine (hcon _).mono ?_); rintro e w' ⟨rfl,rfl⟩);go_ret;exact zns 0 _ rfl (by rw [Go.Sort.alloc_eq_grow,Go.Sort.alloc_eq_grow,Go.Sort.grow_grow]; rfl)
theorem zlb {w W : World} {os : Array Obj} (hW : W = Go.Sort.grow w os) (n : Nat) (o : Obj) : (W.drewN n).alloc o = Go.Sort.grow (w.drewN n) (os ++ #[o]):=by
 subst hW;rw [Go.Sort.alloc_eq_grow,<- Go.Sort.grow_grow];rfl
theorem zup (p1 c1 p2 c2 : Int) (n1 n2 : Value) (h1 : ∃ A n c,n1 = .slice A n c) (h2 : ∃ A n c,n2 = .slice A n c) (w : World) :
  Calls Tryz.prog 63 #[.agg #[.int .i64 p1,.int .i64 c1,n1],.agg #[.int .i64 p2,.int .i64 c2,n2]] w (ztY (.int .i64 (orI [Lib.compareInt c1 c2,Lib.compareInt p1 p2])) w):=by
 obtain ⟨A1,m1,d1,rfl⟩:=h1;obtain ⟨A2,m2,d2,rfl⟩:=h2;go_enter Tryz.func63,Tryz.ntmps63;go_upto_region 1 with fail;have c0 : ((w.alloc (.cells #[.int .i64 p1,.int .i64 c1,.slice A1 m1 d1] 43)).alloc (.cells #[.int .i64 p2,.int .i64 c2,.slice A2 m2 d2] 43)).cell? ⟨w.heap.size,0,none⟩ = some (.int .i64 p1):=by go_simp
 have c1' : ((w.alloc (.cells #[.int .i64 p1,.int .i64 c1,.slice A1 m1 d1] 43)).alloc (.cells #[.int .i64 p2,.int .i64 c2,.slice A2 m2 d2] 43)).cell? ⟨w.heap.size,1,none⟩ = some (.int .i64 c1):=by go_simp
 have d0 : ((w.alloc (.cells #[.int .i64 p1,.int .i64 c1,.slice A1 m1 d1] 43)).alloc (.cells #[.int .i64 p2,.int .i64 c2,.slice A2 m2 d2] 43)).cell? ⟨w.heap.size + 1,0,none⟩ = some (.int .i64 p2):=by go_simp
 have d1' : ((w.alloc (.cells #[.int .i64 p1,.int .i64 c1,.slice A1 m1 d1] 43)).alloc (.cells #[.int .i64 p2,.int .i64 c2,.slice A2 m2 d2] 43)).cell? ⟨w.heap.size + 1,1,none⟩ = some (.int .i64 c2):=by go_simp
 have hW:=Hd (show (w.alloc (.cells #[.int .i64 p1,.int .i64 c1,.slice A1 m1 d1] 43)).alloc (.cells #[.int .i64 p2,.int .i64 c2,.slice A2 m2 d2] 43) = Go.Sort.grow w #[.cells #[.int .i64 p1,.int .i64 c1,.slice A1 m1 d1] 43,.cells #[.int .i64 p2,.int .i64 c2,.slice A2 m2 d2] 43] by rw [Go.Sort.alloc_eq_grow,Go.Sort.alloc_eq_grow,Go.Sort.grow_grow]; rfl);generalize (w.alloc (.cells #[.int .i64 p1,.int .i64 c1,.slice A1 m1 d1] 43)).alloc (.cells #[.int .i64 p2,.int .i64 c2,.slice A2 m2 d2] 43) = W at *;refine zeV (C:=fun w'=>∃ n,w' = W.drewN n) 10 (by kernel_rfl) (by kernel_rfl) ⟨1,rfl⟩ ?_;simp only [tS,tZ,dS,dZ]
 repeat (go_big_quiet_step ((go_at_call 65; exact Calls.quiet_of_same (zjm _ _ _))))
 refine wpQuiet_nil ?_;rintro _ ⟨n,rfl⟩;have hr:=fun W' h=>zzF [Lib.compareInt c1 c2,Lib.compareInt p1 p2] W.heap.size 0 2 W' h (by simp);generalize Lib.compareInt c1 c2 = r at *;generalize Lib.compareInt p1 p2 = s at *;simp only [List.length_cons,List.length_nil,Nat.zero_add,Nat.reduceAdd] at hr
 have hr':=Hd (hr ((W.drewN n).alloc (.cells #[.int .i64 r,.int .i64 s] 3)) (fun i hi=>by
  match i,hi with
  | 0,_=>exact (Blk.new_at (W.drewN n) 3 #[.int .i64 r,.int .i64 s] W.heap.size rfl).cell 0
  | 1,_=>exact (Blk.new_at (W.drewN n) 3 #[.int .i64 r,.int .i64 s] W.heap.size rfl).cell 1))
 clear hr;generalize orI [r,s] = q at *;clear c0 c1' d0 d1';go_wp2_with (go_at_call 64; refine hr'.out.mono ?_; rintro e w' ⟨rfl,rfl⟩);go_ret;exact zns n _ rfl (zlb hW.out n _)
theorem zss (t1 s1 c1 t2 s2 c2 : Int) (w : World) :
  Calls Tryz.prog 112 #[.agg #[.int .i64 t1,.int .i64 s1,.int .i64 c1],.agg #[.int .i64 t2,.int .i64 s2,.int .i64 c2]] w (ztY (.int .i64 (orI [Lib.compareInt c1 c2,Lib.compareInt t1 t2,Lib.compareInt s1 s2])) w):=by
 go_enter Tryz.func112,Tryz.ntmps112;go_upto_region 1 with fail;have c0 : ((w.alloc (.cells #[.int .i64 t1,.int .i64 s1,.int .i64 c1] 69)).alloc (.cells #[.int .i64 t2,.int .i64 s2,.int .i64 c2] 69)).cell? ⟨w.heap.size,0,none⟩ = some (.int .i64 t1):=by go_simp
 have c2' : ((w.alloc (.cells #[.int .i64 t1,.int .i64 s1,.int .i64 c1] 69)).alloc (.cells #[.int .i64 t2,.int .i64 s2,.int .i64 c2] 69)).cell? ⟨w.heap.size,2,none⟩ = some (.int .i64 c1):=by go_simp
 have c1' : ((w.alloc (.cells #[.int .i64 t1,.int .i64 s1,.int .i64 c1] 69)).alloc (.cells #[.int .i64 t2,.int .i64 s2,.int .i64 c2] 69)).cell? ⟨w.heap.size,1,none⟩ = some (.int .i64 s1):=by go_simp
 have d0 : ((w.alloc (.cells #[.int .i64 t1,.int .i64 s1,.int .i64 c1] 69)).alloc (.cells #[.int .i64 t2,.int .i64 s2,.int .i64 c2] 69)).cell? ⟨w.heap.size + 1,0,none⟩ = some (.int .i64 t2):=by go_simp
 have d2' : ((w.alloc (.cells #[.int .i64 t1,.int .i64 s1,.int .i64 c1] 69)).alloc (.cells #[.int .i64 t2,.int .i64 s2,.int .i64 c2] 69)).cell? ⟨w.heap.size + 1,2,none⟩ = some (.int .i64 c2):=by go_simp
 have d1' : ((w.alloc (.cells #[.int .i64 t1,.int .i64 s1,.int .i64 c1] 69)).alloc (.cells #[.int .i64 t2,.int .i64 s2,.int .i64 c2] 69)).cell? ⟨w.heap.size + 1,1,none⟩ = some (.int .i64 s2):=by go_simp
 have hW:=Hd (show (w.alloc (.cells #[.int .i64 t1,.int .i64 s1,.int .i64 c1] 69)).alloc (.cells #[.int .i64 t2,.int .i64 s2,.int .i64 c2] 69) = Go.Sort.grow w #[.cells #[.int .i64 t1,.int .i64 s1,.int .i64 c1] 69,.cells #[.int .i64 t2,.int .i64 s2,.int .i64 c2] 69] by rw [Go.Sort.alloc_eq_grow,Go.Sort.alloc_eq_grow,Go.Sort.grow_grow]; rfl);generalize (w.alloc (.cells #[.int .i64 t1,.int .i64 s1,.int .i64 c1] 69)).alloc (.cells #[.int .i64 t2,.int .i64 s2,.int .i64 c2] 69) = W at *;refine zeV (C:=fun w'=>∃ n,w' = W.drewN n) 15 (by kernel_rfl) (by kernel_rfl) ⟨1,rfl⟩ ?_;simp only [tS,tZ,dS,dZ]
 repeat (go_big_quiet_step ((go_at_call 65; exact Calls.quiet_of_same (zjm _ _ _))))
 refine wpQuiet_nil ?_;rintro _ ⟨n,rfl⟩;have hr:=fun W' h=>zzF [Lib.compareInt c1 c2,Lib.compareInt t1 t2,Lib.compareInt s1 s2] W.heap.size 0 3 W' h (by simp);generalize Lib.compareInt c1 c2 = r at *;generalize Lib.compareInt t1 t2 = s at *;generalize Lib.compareInt s1 s2 = u at *;simp only [List.length_cons,List.length_nil,Nat.zero_add,Nat.reduceAdd] at hr
 have hr':=Hd (hr ((W.drewN n).alloc (.cells #[.int .i64 r,.int .i64 s,.int .i64 u] 3)) (fun i hi=>by
  match i,hi with
  | 0,_=>exact (Blk.new_at (W.drewN n) 3 #[.int .i64 r,.int .i64 s,.int .i64 u] W.heap.size rfl).cell 0
  | 1,_=>exact (Blk.new_at (W.drewN n) 3 #[.int .i64 r,.int .i64 s,.int .i64 u] W.heap.size rfl).cell 1
  | 2,_=>exact (Blk.new_at (W.drewN n) 3 #[.int .i64 r,.int .i64 s,.int .i64 u] W.heap.size rfl).cell 2))
 clear hr;generalize orI [r,s,u] = q at *;clear c0 c1' c2' d0 d1' d2';go_wp2_with (go_at_call 64; refine hr'.out.mono ?_; rintro e w' ⟨rfl,rfl⟩);go_ret;exact zns n _ rfl (zlb hW.out n _)
end
section
open Go.Shelf Go.RowKit Go.Lib Go.Sort
section
variable {α : Type} [Inhabited α]
theorem zov {enc : α -> List Value} {k : Nat} {w : World} {g n off : Nat} {os : Array Obj} {cur : Array Value} {e : TypeId} {fr : Nat × Nat} (d : Array α) (hb : w.heap[g]? = some (.cells cur e fr)) :
  (sortWorldK enc k w g off n d os).heap[g]? = some (.cells (putCells id off (flatK enc k d) cur) e fr):=by
 have hg : g < w.heap.size:=(Array.getElem?_eq_some_iff.1 hb).1;unfold sortWorldK putRowK;rw [heap_grow_old _ _ (by simpa using hg)];simp [putRow,mapBlock,Sort.ahead,Array.getElem?_modify,hb,onCells]
theorem zkU {enc : α -> List Value} {k : Nat} {w : World} {g n off : Nat} {os : Array Obj} (d : Array α) : w.grownBy (sortWorldK enc k w g off n d os) (some g):=by
 unfold sortWorldK putRowK;refine ⟨rfl,rfl,rfl,by simp,fun j hk hne=>?_⟩;rw [heap_grow_old _ _ (by simpa using hk)];have : g ≠ j:=fun e=>hne (by rw [e]);simp [putRow,mapBlock,Sort.ahead,Array.getElem?_modify,this]
theorem zmv (enc : α -> List Value) (k : Nat) (hk : ∀ x,(enc x).length = k) (l : List α) : (flatK enc k l.toArray).toList = l.flatMap enc:=by
 apply List.ext_getElem?
 intro t
 have hl : (l.flatMap enc).length = l.length * k:=by
  induction l with
  | nil=>simp
  | cons a l ih=>rw [List.flatMap_cons,List.length_append,ih,hk,List.length_cons,Nat.succ_mul]; omega
 by_cases ht : t < l.length * k
 ·have hk0 : 0 < k:=by
   rcases Nat.eq_zero_or_pos k with h | h
   ·subst h; simp at ht
   ·exact h
  have hq : t / k < l.length:=Nat.div_lt_of_lt_mul (by rwa [Nat.mul_comm] at ht);have hr : t % k < k:=Nat.mod_lt _ hk0;have e : t / k * k + t % k = t:=by rw [Nat.mul_comm]; exact Nat.div_add_mod t k
  have h1:=zgP enc k hk l (t / k) (t % k) hq hr;rw [e] at h1;rw [h1,Array.getElem?_toList,Array.getElem?_eq_getElem (by simpa using ht),List.getElem?_eq_getElem (by rw [hk]; exact hr)];have h2:=get_flatK enc k l.toArray t (by simpa using ht);rw [getElem!_pos _ t (by simpa using ht)] at h2;rw [h2];congr 1;rw [getElem!_pos l.toArray (t / k) (by simpa using hq)];simp only [gX];rw [getElem!_pos _ _ (by rw [hk]; exact hr)]
 ·rw [List.getElem?_eq_none (by simp; omega),List.getElem?_eq_none (by omega)]
theorem zmh (enc : α -> List Value) (k : Nat) (hk : ∀ x,(enc x).length = k) (cur : Array Value) (ts : List α) (h : ts.length * k <= cur.size) :
  (putCells id 0 (flatK enc k ts.toArray) cur).toList.take (ts.length * k) = ts.flatMap enc:=by
 rw [<- zmv enc k hk ts]
 apply List.ext_getElem?
 intro j;by_cases hj : j < ts.length * k
 ·rw [List.getElem?_take_of_lt hj,Array.getElem?_toList,Array.getElem?_toList]
  simp [putCells,show j < cur.size by omega,hj]
 ·rw [List.getElem?_take_eq_none (by omega),List.getElem?_eq_none (by simp; omega)]
theorem zjb {ρ : Ren} (L : SlLaysF0.n6 Tryz.prog ρ) {E : TypeId} (k : Nat) (aE : ∀ w,(isAgg (ρ.t 24)).run Tryz.prog w = .ok true w) (zE : ∀ w,(Go.sizeOf (ρ.t 24)).run Tryz.prog w = .ok k w)
  (enc : α -> List Value) (hk : ∀ x,(enc x).length = k) (h1 : ∀ x,∀ v ∈ enc x,v.oneCell' = true) (cf : α -> α -> Int) (hO : SWO (ltOf cf)) (g : Nat) (eg : ∀ args w,(callFunc g args).run Tryz.prog w = .ok (.enter g args) w)
  (hcmp : ∀ x y W,Calls Tryz.prog g #[.agg (enc x).toArray,.agg (enc y).toArray] W (ztY (.int .i64 (cf x y)) W)) {I : (Nat -> Prop) -> World -> α -> Prop} (hI : zjL I) {B : Nat} {w : World} {v : Value} {ns : List α} (h : zaw E k enc I B w v ns) (hl : ns.length < 1000000) :
  Calls Tryz.prog (ρ.f 6) #[v,.func (.func g) #[] #[]] w fun e w'=>e = .returned (.tuple #[]) /\ ∃ ns',ns'.Perm ns /\ ns'.Pairwise (fun x y=>ltOf cf y x = false) /\ zaw E k enc I B w' v ns' /\ w.grownBy w' v.ownBlock:=by
 obtain ⟨⟨hlen,hrow⟩,hin⟩:=h;by_cases h0 : ns.length = 0
 ·obtain rfl:=List.length_eq_zero_iff.1 h0
  have hv : ∃ p cap,v = .slice p 0 cap:=by
   rcases hrow with ⟨rfl,-⟩ | ⟨g,cap,cur,rfl,-⟩
   ·exact ⟨_,_,rfl⟩
   ·exact ⟨_,_,rfl⟩
  obtain ⟨p,cap,rfl⟩:=hv;refine (AnyF.slices_SortFunc_none L p cap (.func (.func g) #[] #[]) w).mono ?_;rintro e w' ⟨rfl,rfl⟩;exact ⟨rfl,[],List.Perm.refl _,List.Pairwise.nil,⟨⟨hlen,hrow⟩,hin⟩,World.grownBy.refl _ _⟩
 ·rcases hrow with ⟨-,h2⟩ | ⟨gb,cap,cur,rfl,hB,hg,hn,hcap,hsz,htk⟩
  ·exact absurd h2 h0
  have hgl : gb < w.heap.size:=(Array.getElem?_eq_some_iff.1 hg).1
  have hH : HoldsK enc k w gb 0 ns.toArray:=by
   intro j hj;have hj' : j < ns.length * k:=by simpa using hj
   have hj2 : j < cur.size:=by
    rw [hsz];exact Nat.lt_of_lt_of_le hj' (Nat.mul_le_mul_right k hn)
   refine ⟨?_,?_⟩
   ·have e1 : (cur.toList.take (ns.length * k))[j]? = (flatK enc k ns.toArray).toList[j]?:=by rw [htk,zmv enc k hk ns]
    rw [List.getElem?_take_of_lt hj',Array.getElem?_toList,Array.getElem?_toList,Array.getElem?_eq_getElem hj2,Array.getElem?_eq_getElem hj] at e1;rw [getElem!_pos _ j hj,id_eq,<- Option.some.inj e1];simp [World.cell?,hg,hj2]
   ·simp [World.frozen?,hg]
  have hs:=AnyQ.slices_SortFunc L k aE zE enc hk h1 cf hO g #[] gb 0 cap ns.toArray w eg (fun m os dk _ x y=>by rw [Array.append_empty]; exact hcmp x y _) hH hgl (by simp; omega);simp only [List.size_toArray] at hs;refine hs.mono ?_;rintro e w' ⟨rfl,d',n,os,⟨hp1,-,hp3⟩,hsort,rfl⟩
  have hd : d'.toList.Perm ns:=by
   have:=hp3;simp only [List.size_toArray] at hp1;rw [<- hp1,Array.extract_size] at this;rw [hp1] at this;simpa using this
  have hdl : d'.toList.length = ns.length:=hd.length_eq;have hw:=zov (enc:=enc) (k:=k) (n:=n) (off:=0) (os:=os) d' hg;have hgr:=zkU (enc:=enc) (k:=k) (w:=w) (g:=gb) (n:=n) (off:=0) (os:=os) d';refine ⟨rfl,d'.toList,hd,?_,⟨⟨?_,.inr ⟨gb,cap,_,by rw [hdl],hB,hw,by rw [hdl]; exact hn,hcap,by simp [putCells,hsz],?_⟩⟩,fun x hx=>?_⟩,hgr⟩
  ·rw [List.pairwise_iff_getElem]
   intro i j hi hj hij;have:=hsort i j (Nat.zero_le _) hij (by rw [<- hdl]; exact hj);rw [getElem!_pos d' i (by simpa using hi),getElem!_pos d' j (by simpa using hj)] at this;simpa using this
  ·rw [hdl,<- hlen]
   exact (hd.flatMap_right enc).length_eq
  ·have:=zmh enc k hk cur d'.toList (by rw [hdl,hsz]; exact Nat.mul_le_mul_right k hn)
   simpa using this
  ·exact hI.keep (hin x (hd.mem_iff.1 hx)) (zc.of_grown hgr fun b hb=>hb.2) fun b _ hb=>hb
end
end
section
open Go.Shelf Go.RowKit Go.Lib Go.Sort
theorem znu (a b : zP) : ltOf (fun x y : zP=>Lib.compareInt x.kind y.kind) a b = decide (a.kind < b.kind):=by
 unfold ltOf Lib.compareInt;by_cases h1 : a.kind < b.kind
 ·simp [h1]
 ·by_cases h2 : b.kind < a.kind <;> simp [h1,h2]
theorem zxz : SWO (ltOf fun x y : zP=>Lib.compareInt x.kind y.kind) where
 irrefl x:=by rw [znu]; simp
 trans x y z h1 h2:=by rw [znu] at *; simp at *; omega
 ntrans x y z h1 h2:=by rw [znu] at *; simp at *; omega
instance : Inhabited zP:=⟨zP.zero⟩
theorem zoM (x : zP) : ∀ v ∈ zfo x,v.oneCell' = true:=by
 intro v hv;simp [zfo] at hv;rcases hv with rfl | rfl | rfl <;> rfl
theorem zpi {B : Nat} {w : World} {v : Value} {ns : List zP} (h : zbT B w v ns) (hl : ns.length < 1000000) :
  Calls Tryz.prog 58 #[v,.func (.func 59) #[] #[]] w fun e w'=>e = .returned (.tuple #[]) /\ ∃ ns',ns'.Perm ns /\ ns'.Pairwise (fun x y=>x.kind <= y.kind) /\ zbT B w' v ns' /\ w.grownBy w' v.ownBlock:=by
 have hs:=zjb Sh.sortNotes 3 Tryz.isAgg48 Tryz.sizeOf48 zfo (fun _=>rfl) zoM (fun x y=>Lib.compareInt x.kind y.kind) zxz 59 (zbA Tryz.func59 (by decide) rfl) (fun x y W=>zuq _ _ _ _ _ _ W) ze h hl;refine hs.mono ?_;rintro e w' ⟨rfl,ns',h1,h2,h3,h4⟩;refine ⟨rfl,ns',h1,h2.imp fun {a b} hab=>?_,h3,h4⟩;rw [znu] at hab;simp at hab;exact hab
structure zcl where
 point : Int
 cost : Int
 A : Option Addr
 n : Nat
 c : Nat
 notes : List zP
def zcl.value (m : zcl) : Value:=.slice m.A m.n m.c
def zgi (m : zcl) : List Value:=[.int .i64 m.point,.int .i64 m.cost,m.value]
instance : Inhabited zcl:=⟨⟨0,0,none,0,0,[]⟩⟩
def znb (a b : zcl) : Int:=orI [Lib.compareInt a.cost b.cost,Lib.compareInt a.point b.point]
theorem zgs (x y : Int) : (x < y /\ Lib.compareInt x y = -1) \/ (x = y /\ Lib.compareInt x y = 0) \/ (y < x /\ Lib.compareInt x y = 1):=by
 rcases Int.lt_trichotomy x y with h | h | h
 ·exact .inl ⟨h,zkH h⟩
 ·exact .inr (.inl ⟨h,by rw [h]; exact zkF y⟩)
 ·exact .inr (.inr ⟨h,zkG h⟩)
theorem zkf (a b : zcl) : ltOf znb a b = (decide (a.cost < b.cost) || (decide (a.cost = b.cost) && decide (a.point < b.point))):=by
 unfold ltOf znb;rcases zgs a.cost b.cost with ⟨h1,e1⟩ | ⟨h1,e1⟩ | ⟨h1,e1⟩ <;> rcases zgs a.point b.point with ⟨h2,e2⟩ | ⟨h2,e2⟩ | ⟨h2,e2⟩ <;> rw [e1,e2] <;> simp [orI] <;> omega
theorem zvS : SWO (ltOf znb) where
 irrefl x:=by rw [zkf]; simp
 trans x y z h1 h2:=by rw [zkf] at *; simp at *; omega
 ntrans x y z h1 h2:=by rw [zkf] at *; simp at *; omega
theorem zmA (x : zcl) : ∀ v ∈ zgi x,v.oneCell' = true:=by
 intro v hv;simp [zgi] at hv;rcases hv with rfl | rfl | rfl <;> rfl
def zvh (Q : Nat -> Prop) (w : World) (m : zcl) : Prop:=zbw Q w m.value m.notes
theorem zbX : zjL zvh where
 keep:=fun h hk hPQ=>zbw.keep h hk hPQ
abbrev zes:=zaw 43 3 zgi zvh
theorem zme {B : Nat} {w : World} {v : Value} {ns : List zcl} (h : zes B w v ns) (hl : ns.length < 1000000) :
  Calls Tryz.prog 62 #[v,.func (.func 63) #[] #[]] w fun e w'=>e = .returned (.tuple #[]) /\ ∃ ns',ns'.Perm ns /\ ns'.Pairwise (fun x y=>x.cost < y.cost \/ (x.cost = y.cost /\ x.point <= y.point)) /\ zes B w' v ns' /\ w.grownBy w' v.ownBlock:=by
 have hs:=zjb Sh.sortMatches 3 Tryz.isAgg43 Tryz.sizeOf43 zgi (fun _=>rfl) zmA znb zvS 63 (zbA Tryz.func63 (by decide) rfl) (fun x y W=>zup _ _ _ _ _ _ ⟨_,_,_,rfl⟩ ⟨_,_,_,rfl⟩ W) zbX h hl;refine hs.mono ?_;rintro e w' ⟨rfl,ns',h1,h2,h3,h4⟩;refine ⟨rfl,ns',h1,h2.imp fun {a b} hab=>?_,h3,h4⟩;rw [zkf] at hab;simp at hab;omega
structure zby where
 town : Int
 street : Int
 cost : Int
def zgF (p : zby) : List Value:=[.int .i64 p.town,.int .i64 p.street,.int .i64 p.cost]
instance : Inhabited zby:=⟨⟨0,0,0⟩⟩
def znc (a b : zby) : Int:=orI [Lib.compareInt a.cost b.cost,Lib.compareInt a.town b.town,Lib.compareInt a.street b.street]
theorem znv (a b : zby) : ltOf znc a b = (decide (a.cost < b.cost) || (decide (a.cost = b.cost) && (decide (a.town < b.town) || (decide (a.town = b.town) && decide (a.street < b.street))))):=by
 unfold ltOf znc;rcases zgs a.cost b.cost with ⟨h1,e1⟩ | ⟨h1,e1⟩ | ⟨h1,e1⟩ <;> rcases zgs a.town b.town with ⟨h2,e2⟩ | ⟨h2,e2⟩ | ⟨h2,e2⟩ <;> rcases zgs a.street b.street with ⟨h3,e3⟩ | ⟨h3,e3⟩ | ⟨h3,e3⟩ <;> rw [e1,e2,e3] <;> simp [orI] <;> omega
theorem zvT : SWO (ltOf znc) where
 irrefl x:=by rw [znv]; simp
 trans x y z h1 h2:=by rw [znv] at *; simp at *; omega
 ntrans x y z h1 h2:=by rw [znv] at *; simp at *; omega
theorem ziW (x : zby) : ∀ v ∈ zgF x,v.oneCell' = true:=by
 intro v hv;simp [zgF] at hv;rcases hv with rfl | rfl | rfl <;> rfl
abbrev zco:=zaw 69 3 zgF zdp
theorem znI {B : Nat} {w : World} {v : Value} {ns : List zby} (h : zco B w v ns) (hl : ns.length < 1000000) :
  Calls Tryz.prog 111 #[v,.func (.func 112) #[] #[]] w fun e w'=>e = .returned (.tuple #[]) /\ ∃ ns',ns'.Perm ns /\ zco B w' v ns' /\ w.grownBy w' v.ownBlock:=by
 have hs:=zjb Sh.sortPlaces 3 Tryz.isAgg69 Tryz.sizeOf69 zgF (fun _=>rfl) ziW znc zvT 112 (zbA Tryz.func112 (by decide) rfl) (fun x y W=>zss _ _ _ _ _ _ W) ze h hl;exact hs.mono fun _ _ ⟨he,ns',h1,_,h3,h4⟩=>⟨he,ns',h1,h3,h4⟩
end
end Go.Proofs.YtggimnndflkjkaaGreatDoor
