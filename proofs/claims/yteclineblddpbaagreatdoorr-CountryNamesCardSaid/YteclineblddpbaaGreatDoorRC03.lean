import Derived.Test.YteclineblddpbaaGreatDoorRC01
import Derived.Test.YteclineblddpbaaGreatDoorRC02
set_option linter.all false
set_option maxRecDepth 100000
set_option maxHeartbeats 0
namespace Go.Proofs.YteclineblddpbaaGreatDoorR
section
open Go.RowKit Go.Maps
def lettersQ (c : Nat) : ByteArray:=if c = 128 \/ c = 129 \/ c = 130 \/ c = 131 \/ c = 133 then ⟨#[65]⟩ else if c = 132 \/ c = 134 then ⟨#[65,69]⟩ else if c = 135 then ⟨#[67]⟩ else if c = 136 \/ c = 137 \/ c = 138 \/ c = 139 then ⟨#[69]⟩ else if c = 140 \/ c = 141 \/ c = 142 \/ c = 143 then ⟨#[73]⟩ else if c = 144 then ⟨#[68]⟩ else if c = 145 then ⟨#[78]⟩ else if c = 146 \/ c = 147 \/ c = 148 \/ c = 149 \/ c = 152 then ⟨#[79]⟩ else if c = 150 then ⟨#[79,69]⟩ else if c = 153 \/ c = 154 \/ c = 155 then ⟨#[85]⟩ else if c = 156 then ⟨#[85,69]⟩ else if c = 157 then ⟨#[89]⟩ else if c = 158 then ⟨#[84,72]⟩ else ⟨#[]⟩
def lettersP (a b : Nat) : ByteArray:=
 if a = 197 then (if b = 146 \/ b = 147 then ⟨#[79,69]⟩ else if b = 160 \/ b = 161 then ⟨#[83]⟩ else if b = 189 \/ b = 190 then ⟨#[90]⟩ else ⟨#[]⟩)
 else if a = 195 then (if b = 159 then ⟨#[83,83]⟩ else if b = 191 then ⟨#[89]⟩ else lettersQ (if 160 <= b /\ b <= 190 then b - 32 else b)) else ⟨#[]⟩
theorem letters_any (a b : Nat) (ha : a < 256) (hb : b < 256) (w : World) : Calls Tryz.prog 122 #[.int .u8 (a : Int),.int .u8 (b : Int)] w fun e w'=>e = .returned (.string (lettersP a b)) /\ w' = w:=by
 by_cases h7 : a = 197
 ·subst h7
  by_cases hk : b = 146 \/ b = 147 \/ b = 160 \/ b = 161 \/ b = 189 \/ b = 190
  ·rcases hk with rfl | rfl | rfl | rfl | rfl | rfl
   all_goals (go_enter Tryz.func122,Tryz.ntmps122; go_wp2; go_ret; exact ⟨rfl,rfl⟩)
  ·have hP : Hid (lettersP 197 b = ⟨#[]⟩):=Hd (by unfold lettersP; rw [if_pos rfl,if_neg (by omega),if_neg (by omega),if_neg (by omega)])
   have q146 : ((b : Int) == 146) = false:=beq_eq_false_iff_ne.2 (by omega)
   have r146 : ¬ (b : Int) = 146:=by omega
   have q147 : ((b : Int) == 147) = false:=beq_eq_false_iff_ne.2 (by omega)
   have r147 : ¬ (b : Int) = 147:=by omega
   have q160 : ((b : Int) == 160) = false:=beq_eq_false_iff_ne.2 (by omega)
   have r160 : ¬ (b : Int) = 160:=by omega
   have q161 : ((b : Int) == 161) = false:=beq_eq_false_iff_ne.2 (by omega)
   have r161 : ¬ (b : Int) = 161:=by omega
   have q189 : ((b : Int) == 189) = false:=beq_eq_false_iff_ne.2 (by omega)
   have r189 : ¬ (b : Int) = 189:=by omega
   have q190 : ((b : Int) == 190) = false:=beq_eq_false_iff_ne.2 (by omega)
   have r190 : ¬ (b : Int) = 190:=by omega
   clear hk
   go_enter Tryz.func122,Tryz.ntmps122
   go_wp2
   go_ret
   exact ⟨by rw [hP.out]; rfl,rfl⟩
 ·have p7 : ((a : Int) == 197) = false:=beq_eq_false_iff_ne.2 (by omega)
  have p7' : ¬ (a : Int) = 197:=by omega
  by_cases h5 : a = 195
  ·subst h5
   clear p7 p7' h7
   by_cases hk : 128 <= b /\ b <= 191
   ·have hc : b = 128 \/ b = 129 \/ b = 130 \/ b = 131 \/ b = 132 \/ b = 133 \/ b = 134 \/ b = 135 \/ b = 136 \/ b = 137 \/ b = 138 \/ b = 139 \/ b = 140 \/ b = 141 \/ b = 142 \/ b = 143 \/ b = 144 \/ b = 145 \/ b = 146 \/ b = 147 \/ b = 148 \/ b = 149 \/ b = 150 \/ b = 151 \/ b = 152 \/ b = 153 \/ b = 154 \/ b = 155 \/ b = 156 \/ b = 157 \/ b = 158 \/ b = 159 \/ b = 160 \/ b = 161 \/ b = 162 \/ b = 163 \/ b = 164 \/ b = 165 \/ b = 166 \/ b = 167 \/ b = 168 \/ b = 169 \/ b = 170 \/ b = 171 \/ b = 172 \/ b = 173 \/ b = 174 \/ b = 175 \/ b = 176 \/ b = 177 \/ b = 178 \/ b = 179 \/ b = 180 \/ b = 181 \/ b = 182 \/ b = 183 \/ b = 184 \/ b = 185 \/ b = 186 \/ b = 187 \/ b = 188 \/ b = 189 \/ b = 190 \/ b = 191:=by omega
    rcases hc with rfl | rfl | rfl | rfl | rfl | rfl | rfl | rfl | rfl | rfl | rfl | rfl | rfl | rfl | rfl | rfl | rfl | rfl | rfl | rfl | rfl | rfl | rfl | rfl | rfl | rfl | rfl | rfl | rfl | rfl | rfl | rfl | rfl | rfl | rfl | rfl | rfl | rfl | rfl | rfl | rfl | rfl | rfl | rfl | rfl | rfl | rfl | rfl | rfl | rfl | rfl | rfl | rfl | rfl | rfl | rfl | rfl | rfl | rfl | rfl | rfl | rfl | rfl | rfl
    all_goals (go_enter Tryz.func122,Tryz.ntmps122; go_wp2; go_ret; exact ⟨rfl,rfl⟩)
   ·have hP : Hid (lettersP 195 b = ⟨#[]⟩):=Hd (by
     unfold lettersP lettersQ
     have hcc : (if 160 <= b /\ b <= 190 then b - 32 else b) = b:=if_neg (by omega)
     rw [hcc,if_neg (by decide),if_pos rfl,if_neg (by omega),if_neg (by omega)]
     repeat rw [if_neg (by omega)])
    have q128 : ((b : Int) == 128) = false:=beq_eq_false_iff_ne.2 (by omega)
    have r128 : ¬ (b : Int) = 128:=by omega
    have q129 : ((b : Int) == 129) = false:=beq_eq_false_iff_ne.2 (by omega)
    have r129 : ¬ (b : Int) = 129:=by omega
    have q130 : ((b : Int) == 130) = false:=beq_eq_false_iff_ne.2 (by omega)
    have r130 : ¬ (b : Int) = 130:=by omega
    have q131 : ((b : Int) == 131) = false:=beq_eq_false_iff_ne.2 (by omega)
    have r131 : ¬ (b : Int) = 131:=by omega
    have q132 : ((b : Int) == 132) = false:=beq_eq_false_iff_ne.2 (by omega)
    have r132 : ¬ (b : Int) = 132:=by omega
    have q133 : ((b : Int) == 133) = false:=beq_eq_false_iff_ne.2 (by omega)
    have r133 : ¬ (b : Int) = 133:=by omega
    have q134 : ((b : Int) == 134) = false:=beq_eq_false_iff_ne.2 (by omega)
    have r134 : ¬ (b : Int) = 134:=by omega
    have q135 : ((b : Int) == 135) = false:=beq_eq_false_iff_ne.2 (by omega)
    have r135 : ¬ (b : Int) = 135:=by omega
    have q136 : ((b : Int) == 136) = false:=beq_eq_false_iff_ne.2 (by omega)
    have r136 : ¬ (b : Int) = 136:=by omega
    have q137 : ((b : Int) == 137) = false:=beq_eq_false_iff_ne.2 (by omega)
    have r137 : ¬ (b : Int) = 137:=by omega
    have q138 : ((b : Int) == 138) = false:=beq_eq_false_iff_ne.2 (by omega)
    have r138 : ¬ (b : Int) = 138:=by omega
    have q139 : ((b : Int) == 139) = false:=beq_eq_false_iff_ne.2 (by omega)
    have r139 : ¬ (b : Int) = 139:=by omega
    have q140 : ((b : Int) == 140) = false:=beq_eq_false_iff_ne.2 (by omega)
    have r140 : ¬ (b : Int) = 140:=by omega
    have q141 : ((b : Int) == 141) = false:=beq_eq_false_iff_ne.2 (by omega)
    have r141 : ¬ (b : Int) = 141:=by omega
    have q142 : ((b : Int) == 142) = false:=beq_eq_false_iff_ne.2 (by omega)
    have r142 : ¬ (b : Int) = 142:=by omega
    have q143 : ((b : Int) == 143) = false:=beq_eq_false_iff_ne.2 (by omega)
    have r143 : ¬ (b : Int) = 143:=by omega
    have q144 : ((b : Int) == 144) = false:=beq_eq_false_iff_ne.2 (by omega)
    have r144 : ¬ (b : Int) = 144:=by omega
    have q145 : ((b : Int) == 145) = false:=beq_eq_false_iff_ne.2 (by omega)
    have r145 : ¬ (b : Int) = 145:=by omega
    have q146 : ((b : Int) == 146) = false:=beq_eq_false_iff_ne.2 (by omega)
    have r146 : ¬ (b : Int) = 146:=by omega
    have q147 : ((b : Int) == 147) = false:=beq_eq_false_iff_ne.2 (by omega)
    have r147 : ¬ (b : Int) = 147:=by omega
    have q148 : ((b : Int) == 148) = false:=beq_eq_false_iff_ne.2 (by omega)
    have r148 : ¬ (b : Int) = 148:=by omega
    have q149 : ((b : Int) == 149) = false:=beq_eq_false_iff_ne.2 (by omega)
    have r149 : ¬ (b : Int) = 149:=by omega
    have q150 : ((b : Int) == 150) = false:=beq_eq_false_iff_ne.2 (by omega)
    have r150 : ¬ (b : Int) = 150:=by omega
    have q152 : ((b : Int) == 152) = false:=beq_eq_false_iff_ne.2 (by omega)
    have r152 : ¬ (b : Int) = 152:=by omega
    have q153 : ((b : Int) == 153) = false:=beq_eq_false_iff_ne.2 (by omega)
    have r153 : ¬ (b : Int) = 153:=by omega
    have q154 : ((b : Int) == 154) = false:=beq_eq_false_iff_ne.2 (by omega)
    have r154 : ¬ (b : Int) = 154:=by omega
    have q155 : ((b : Int) == 155) = false:=beq_eq_false_iff_ne.2 (by omega)
    have r155 : ¬ (b : Int) = 155:=by omega
    have q156 : ((b : Int) == 156) = false:=beq_eq_false_iff_ne.2 (by omega)
    have r156 : ¬ (b : Int) = 156:=by omega
    have q157 : ((b : Int) == 157) = false:=beq_eq_false_iff_ne.2 (by omega)
    have r157 : ¬ (b : Int) = 157:=by omega
    have q158 : ((b : Int) == 158) = false:=beq_eq_false_iff_ne.2 (by omega)
    have r158 : ¬ (b : Int) = 158:=by omega
    have q159 : ((b : Int) == 159) = false:=beq_eq_false_iff_ne.2 (by omega)
    have r159 : ¬ (b : Int) = 159:=by omega
    have q191 : ((b : Int) == 191) = false:=beq_eq_false_iff_ne.2 (by omega)
    have r191 : ¬ (b : Int) = 191:=by omega
    rcases Nat.lt_or_ge b 128 with hlo | hhi
    ·have g1 : decide ((b : Int) ≥ 160) = false:=decide_eq_false (by omega)
     have g2 : ¬ (160 : Int) <= (b : Int):=by omega
     clear hk hlo
     go_enter Tryz.func122,Tryz.ntmps122
     go_wp2
     go_ret
     exact ⟨by rw [hP.out]; rfl,rfl⟩
    ·have g1 : decide ((b : Int) ≥ 160) = true:=decide_eq_true (by omega)
     have g2 : (160 : Int) <= (b : Int):=by omega
     have g3 : decide ((b : Int) <= 190) = false:=decide_eq_false (by omega)
     have g4 : ¬ (b : Int) <= 190:=by omega
     clear hk hhi
     go_enter Tryz.func122,Tryz.ntmps122
     go_wp2
     go_ret
     exact ⟨by rw [hP.out]; rfl,rfl⟩
  ·have p5 : ((a : Int) != 195) = true:=by simp; omega
   have p5' : ¬ (a : Int) = 195:=by omega
   have hP : Hid (lettersP a b = ⟨#[]⟩):=Hd (by unfold lettersP; rw [if_neg h7,if_neg h5])
   clear h7 h5
   go_enter Tryz.func122,Tryz.ntmps122
   go_wp2
   go_ret
   exact ⟨by rw [hP.out]; rfl,rfl⟩
def plainB (b : Nat) : Prop:=(65 <= b /\ b <= 90) \/ (48 <= b /\ b <= 57) \/ b = 45 \/ b = 47
instance (b : Nat) : Decidable (plainB b):=by unfold plainB; infer_instance
def becG (s : ByteArray) (i : Nat) : ByteArray × Nat:=
 if plainB (byteAt s i) then (s.extract i (i + 1),1) else if 97 <= byteAt s i /\ byteAt s i <= 122 then (⟨#[UInt8.ofNat (byteAt s i - 32)]⟩,1)
 else if i + 1 < s.size /\ (lettersP (byteAt s i) (byteAt s (i + 1))).size ≠ 0 then (lettersP (byteAt s i) (byteAt s (i + 1)),2) else (⟨#[]⟩,1)
theorem byteAt_lt (s : ByteArray) (i : Nat) : byteAt s i < 256:=by
 unfold byteAt
 split
 ·exact UInt8.toNat_lt _
 ·omega
theorem enc_ascii {d : Nat} (h : d < 128) : Utf8.encode (d : Int) = ⟨#[UInt8.ofNat d]⟩:=by
 have v : Utf8.valid (d : Int) = true:=by simp [Utf8.valid]; omega
 simp [Utf8.encode,v,h]
theorem becomes_any (s : ByteArray) (i : Nat) (hi : i < s.size) (g : Nat) (w : World) (hsz : s.size <= 1000000) (hc : w.cell? ⟨g,0,none⟩ = some (.string s)) :
  Calls Tryz.prog 121 #[.int .i64 i,.pointer (some ⟨g,0,none⟩)] w fun e w'=>e = .returned (.tuple #[.string (becG s i).1,.int .i64 ((becG s i).2 : Int)]) /\ w' = w:=by
 have hbt : byteAt s i = (s[i]'hi).toNat:=by unfold byteAt; rw [dif_pos hi]
 have hb256:=byteAt_lt s i
 have n0 : (0 : Int) <= (i : Int):=by omega
 have n1 : (i : Int) < (s.size : Int):=by omega
 have n2 : (i : Int) <= (i : Int) + 1:=by omega
 have n3 : (i : Int) + 1 <= (s.size : Int):=by omega
 have hto : ((i : Int) + 1).toNat = i + 1:=by omega
 by_cases hpl : plainB (byteAt s i)
 ·have hfin:=Hd (show becG s i = (s.extract i (i + 1),1) from if_pos hpl)
  rw [hbt] at hpl
  clear hbt hb256
  rcases hpl with ⟨q1,q2⟩ | ⟨q1,q2⟩ | q | q
  ·have b1 : decide (65 <= ((s[i]'hi).toNat : Int)) = true:=by simp; omega
   have b2 : decide (((s[i]'hi).toNat : Int) <= 90) = true:=by simp; omega
   clear q1 q2
   go_enter Tryz.func121,Tryz.ntmps121
   go_wp2
   go_ret2
   exact ⟨by rw [hfin.out]; rfl,rfl⟩
  ·have b1 : decide (65 <= ((s[i]'hi).toNat : Int)) = false:=by simp; omega
   have b2 : decide (48 <= ((s[i]'hi).toNat : Int)) = true:=by simp; omega
   have b3 : decide (((s[i]'hi).toNat : Int) <= 57) = true:=by simp; omega
   clear q1 q2
   go_enter Tryz.func121,Tryz.ntmps121
   go_wp2
   go_ret2
   exact ⟨by rw [hfin.out]; rfl,rfl⟩
  ·have b1 : ((s[i]'hi).toNat : Int) = 45:=by omega
   clear q
   go_enter Tryz.func121,Tryz.ntmps121
   go_wp2_with (simp only [b1])
   go_ret2
   exact ⟨by rw [hfin.out]; rfl,rfl⟩
  ·have b1 : ((s[i]'hi).toNat : Int) = 47:=by omega
   clear q
   go_enter Tryz.func121,Tryz.ntmps121
   go_wp2_with (simp only [b1])
   go_ret2
   exact ⟨by rw [hfin.out]; rfl,rfl⟩
 ·have hno:=Hd (show becG s i = if 97 <= byteAt s i /\ byteAt s i <= 122 then (⟨#[UInt8.ofNat (byteAt s i - 32)]⟩,1) else if i + 1 < s.size /\ (lettersP (byteAt s i) (byteAt s (i + 1))).size ≠ 0 then (lettersP (byteAt s i) (byteAt s (i + 1)),2) else (⟨#[]⟩,1) from if_neg hpl)
  unfold plainB at hpl
  obtain ⟨b,hbq⟩ : ∃ b : Nat,b = (s[i]'hi).toNat:=⟨_,rfl⟩
  rw [hbt,<- hbq] at hno hpl hb256
  have hbi:=Hd hbq
  clear hbt
  have c3 : ((b : Int) == 45) = false:=beq_eq_false_iff_ne.2 (by omega)
  have c4 : ((b : Int) == 47) = false:=beq_eq_false_iff_ne.2 (by omega)
  have c5 : ¬ (b : Int) = 45:=by omega
  have c6 : ¬ (b : Int) = 47:=by omega
  by_cases hsm : 97 <= b /\ b <= 122
  ·rw [if_pos hsm] at hno
   have b1 : decide ((65 : Int) <= (b : Int)) = true:=decide_eq_true (by omega)
   have b2 : decide ((b : Int) <= 90) = false:=decide_eq_false (by omega)
   have b3 : decide ((48 : Int) <= (b : Int)) = true:=decide_eq_true (by omega)
   have b4 : decide ((b : Int) <= 57) = false:=decide_eq_false (by omega)
   have b5 : decide ((97 : Int) <= (b : Int)) = true:=decide_eq_true (by omega)
   have b6 : decide ((b : Int) <= 122) = true:=decide_eq_true (by omega)
   have w1 : IntKind.u8.wrap ((b : Int) - 97) = (b : Int) - 97:=by simp [IntKind.wrap,IntKind.bits,IntKind.signed]; omega
   have w2 : IntKind.u8.wrap ((b : Int) - 97 + 65) = ((b - 32 : Nat) : Int):=by simp [IntKind.wrap,IntKind.bits,IntKind.signed]; omega
   have w3 : b - 32 < 128:=by omega
   clear hpl hsm
   go_enter Tryz.func121,Tryz.ntmps121
   go_upto_region 2 with fail
   simp only [<- hbq]
   clear hbq
   generalize b - 32 = d at *
   have he:=Hd (enc_ascii w3)
   go_wp2_with fail
   rw [he.out]
   go_ret2
   exact ⟨by rw [hno.out]; rfl,rfl⟩
  ·rw [if_neg hsm] at hno
   have hrg : b < 48 \/ (58 <= b /\ b <= 64) \/ (91 <= b /\ b <= 96) \/ 123 <= b:=by omega
   clear hsm
   rcases hrg with hrg | hrg | hrg | hrg
   ·skip
    have b1 : decide ((65 : Int) <= (b : Int)) = false:=decide_eq_false (by omega)
    have b3 : decide ((48 : Int) <= (b : Int)) = false:=decide_eq_false (by omega)
    have b5 : decide ((97 : Int) <= (b : Int)) = false:=decide_eq_false (by omega)
    clear hpl hrg
    by_cases hl : i + 1 < s.size
    ·have hb2 : byteAt s (i + 1) = (s[i + 1]'hl).toNat:=by unfold byteAt; rw [dif_pos hl]
     have hb2l:=byteAt_lt s (i + 1)
     have n4 : (i : Int) + 1 < (s.size : Int):=by omega
     have n5 : (0 : Int) <= (i : Int) + 1:=by omega
     have hlet:=Hd (letters_any b (byteAt s (i + 1)) hb256 hb2l w)
     rw [hb2] at hno hlet
     have hb2':=Hd hb2
     clear hb2 hb2l
     go_enter Tryz.func121,Tryz.ntmps121
     go_upto_region 2 with fail
     simp only [<- hbq]
     clear hbq
     go_wp2_with fail
     refine hlet.out.mono ?_
     rintro e w' ⟨rfl,rfl⟩
     clear hlet
     generalize lettersP b (s[i + 1]'hl).toNat = z at *
     by_cases hz : z.size = 0
     ·have yq : z.toList.isEmpty = true:=by
       have : z.data.toList = []:=List.eq_nil_of_length_eq_zero (by rw [<- Lib.size_eq]; exact hz)
       rw [Lib.toList_data,this]; rfl
      rw [if_neg (fun h=>h.2 hz)] at hno
      clear hz
      go_wp2_with fail
      go_ret2
      exact ⟨by rw [hno.out]; rfl,rfl⟩
     ·have yq : z.toList.isEmpty = false:=by
       rw [Lib.toList_data]
       cases h : z.data.toList with
       | nil=>exact absurd (by rw [Lib.size_eq,h]; rfl) hz
       | cons a l=>rfl
      rw [if_pos ⟨hl,hz⟩] at hno
      clear hz
      go_wp2_with fail
      go_ret2
      exact ⟨by rw [hno.out]; rfl,rfl⟩
    ·skip
     have n4 : ¬ (i : Int) + 1 < (s.size : Int):=by omega
     have n5 : decide ((i : Int) + 1 < (s.size : Int)) = false:=decide_eq_false n4
     rw [if_neg (fun h=>hl h.1)] at hno
     go_enter Tryz.func121,Tryz.ntmps121
     go_upto_region 2 with fail
     simp only [<- hbq]
     clear hbq
     go_wp2_with fail
     go_ret2
     exact ⟨by rw [hno.out]; rfl,rfl⟩
   ·skip
    have b1 : decide ((65 : Int) <= (b : Int)) = false:=decide_eq_false (by omega)
    have b3 : decide ((48 : Int) <= (b : Int)) = true:=decide_eq_true (by omega)
    have b4 : decide ((b : Int) <= 57) = false:=decide_eq_false (by omega)
    have b5 : decide ((97 : Int) <= (b : Int)) = false:=decide_eq_false (by omega)
    clear hpl hrg
    by_cases hl : i + 1 < s.size
    ·have hb2 : byteAt s (i + 1) = (s[i + 1]'hl).toNat:=by unfold byteAt; rw [dif_pos hl]
     have hb2l:=byteAt_lt s (i + 1)
     have n4 : (i : Int) + 1 < (s.size : Int):=by omega
     have n5 : (0 : Int) <= (i : Int) + 1:=by omega
     have hlet:=Hd (letters_any b (byteAt s (i + 1)) hb256 hb2l w)
     rw [hb2] at hno hlet
     have hb2':=Hd hb2
     clear hb2 hb2l
     go_enter Tryz.func121,Tryz.ntmps121
     go_upto_region 2 with fail
     simp only [<- hbq]
     clear hbq
     go_wp2_with fail
     refine hlet.out.mono ?_
     rintro e w' ⟨rfl,rfl⟩
     clear hlet
     generalize lettersP b (s[i + 1]'hl).toNat = z at *
     by_cases hz : z.size = 0
     ·have yq : z.toList.isEmpty = true:=by
       have : z.data.toList = []:=List.eq_nil_of_length_eq_zero (by rw [<- Lib.size_eq]; exact hz)
       rw [Lib.toList_data,this]; rfl
      rw [if_neg (fun h=>h.2 hz)] at hno
      clear hz
      go_wp2_with fail
      go_ret2
      exact ⟨by rw [hno.out]; rfl,rfl⟩
     ·have yq : z.toList.isEmpty = false:=by
       rw [Lib.toList_data]
       cases h : z.data.toList with
       | nil=>exact absurd (by rw [Lib.size_eq,h]; rfl) hz
       | cons a l=>rfl
      rw [if_pos ⟨hl,hz⟩] at hno
      clear hz
      go_wp2_with fail
      go_ret2
      exact ⟨by rw [hno.out]; rfl,rfl⟩
    ·skip
     have n4 : ¬ (i : Int) + 1 < (s.size : Int):=by omega
     have n5 : decide ((i : Int) + 1 < (s.size : Int)) = false:=decide_eq_false n4
     rw [if_neg (fun h=>hl h.1)] at hno
     go_enter Tryz.func121,Tryz.ntmps121
     go_upto_region 2 with fail
     simp only [<- hbq]
     clear hbq
     go_wp2_with fail
     go_ret2
     exact ⟨by rw [hno.out]; rfl,rfl⟩
   ·skip
    have b1 : decide ((65 : Int) <= (b : Int)) = true:=decide_eq_true (by omega)
    have b2 : decide ((b : Int) <= 90) = false:=decide_eq_false (by omega)
    have b3 : decide ((48 : Int) <= (b : Int)) = true:=decide_eq_true (by omega)
    have b4 : decide ((b : Int) <= 57) = false:=decide_eq_false (by omega)
    have b5 : decide ((97 : Int) <= (b : Int)) = false:=decide_eq_false (by omega)
    clear hpl hrg
    by_cases hl : i + 1 < s.size
    ·have hb2 : byteAt s (i + 1) = (s[i + 1]'hl).toNat:=by unfold byteAt; rw [dif_pos hl]
     have hb2l:=byteAt_lt s (i + 1)
     have n4 : (i : Int) + 1 < (s.size : Int):=by omega
     have n5 : (0 : Int) <= (i : Int) + 1:=by omega
     have hlet:=Hd (letters_any b (byteAt s (i + 1)) hb256 hb2l w)
     rw [hb2] at hno hlet
     have hb2':=Hd hb2
     clear hb2 hb2l
     go_enter Tryz.func121,Tryz.ntmps121
     go_upto_region 2 with fail
     simp only [<- hbq]
     clear hbq
     go_wp2_with fail
     refine hlet.out.mono ?_
     rintro e w' ⟨rfl,rfl⟩
     clear hlet
     generalize lettersP b (s[i + 1]'hl).toNat = z at *
     by_cases hz : z.size = 0
     ·have yq : z.toList.isEmpty = true:=by
       have : z.data.toList = []:=List.eq_nil_of_length_eq_zero (by rw [<- Lib.size_eq]; exact hz)
       rw [Lib.toList_data,this]; rfl
      rw [if_neg (fun h=>h.2 hz)] at hno
      clear hz
      go_wp2_with fail
      go_ret2
      exact ⟨by rw [hno.out]; rfl,rfl⟩
     ·have yq : z.toList.isEmpty = false:=by
       rw [Lib.toList_data]
       cases h : z.data.toList with
       | nil=>exact absurd (by rw [Lib.size_eq,h]; rfl) hz
       | cons a l=>rfl
      rw [if_pos ⟨hl,hz⟩] at hno
      clear hz
      go_wp2_with fail
      go_ret2
      exact ⟨by rw [hno.out]; rfl,rfl⟩
    ·skip
     have n4 : ¬ (i : Int) + 1 < (s.size : Int):=by omega
     have n5 : decide ((i : Int) + 1 < (s.size : Int)) = false:=decide_eq_false n4
     rw [if_neg (fun h=>hl h.1)] at hno
     go_enter Tryz.func121,Tryz.ntmps121
     go_upto_region 2 with fail
     simp only [<- hbq]
     clear hbq
     go_wp2_with fail
     go_ret2
     exact ⟨by rw [hno.out]; rfl,rfl⟩
   ·skip
    have b1 : decide ((65 : Int) <= (b : Int)) = true:=decide_eq_true (by omega)
    have b2 : decide ((b : Int) <= 90) = false:=decide_eq_false (by omega)
    have b3 : decide ((48 : Int) <= (b : Int)) = true:=decide_eq_true (by omega)
    have b4 : decide ((b : Int) <= 57) = false:=decide_eq_false (by omega)
    have b5 : decide ((97 : Int) <= (b : Int)) = true:=decide_eq_true (by omega)
    have b6 : decide ((b : Int) <= 122) = false:=decide_eq_false (by omega)
    clear hpl hrg
    by_cases hl : i + 1 < s.size
    ·have hb2 : byteAt s (i + 1) = (s[i + 1]'hl).toNat:=by unfold byteAt; rw [dif_pos hl]
     have hb2l:=byteAt_lt s (i + 1)
     have n4 : (i : Int) + 1 < (s.size : Int):=by omega
     have n5 : (0 : Int) <= (i : Int) + 1:=by omega
     have hlet:=Hd (letters_any b (byteAt s (i + 1)) hb256 hb2l w)
     rw [hb2] at hno hlet
     have hb2':=Hd hb2
     clear hb2 hb2l
     go_enter Tryz.func121,Tryz.ntmps121
     go_upto_region 2 with fail
     simp only [<- hbq]
     clear hbq
     go_wp2_with fail
     refine hlet.out.mono ?_
     rintro e w' ⟨rfl,rfl⟩
     clear hlet
     generalize lettersP b (s[i + 1]'hl).toNat = z at *
     by_cases hz : z.size = 0
     ·have yq : z.toList.isEmpty = true:=by
       have : z.data.toList = []:=List.eq_nil_of_length_eq_zero (by rw [<- Lib.size_eq]; exact hz)
       rw [Lib.toList_data,this]; rfl
      rw [if_neg (fun h=>h.2 hz)] at hno
      clear hz
      go_wp2_with fail
      go_ret2
      exact ⟨by rw [hno.out]; rfl,rfl⟩
     ·have yq : z.toList.isEmpty = false:=by
       rw [Lib.toList_data]
       cases h : z.data.toList with
       | nil=>exact absurd (by rw [Lib.size_eq,h]; rfl) hz
       | cons a l=>rfl
      rw [if_pos ⟨hl,hz⟩] at hno
      clear hz
      go_wp2_with fail
      go_ret2
      exact ⟨by rw [hno.out]; rfl,rfl⟩
    ·skip
     have n4 : ¬ (i : Int) + 1 < (s.size : Int):=by omega
     have n5 : decide ((i : Int) + 1 < (s.size : Int)) = false:=decide_eq_false n4
     rw [if_neg (fun h=>hl h.1)] at hno
     go_enter Tryz.func121,Tryz.ntmps121
     go_upto_region 2 with fail
     simp only [<- hbq]
     clear hbq
     go_wp2_with fail
     go_ret2
     exact ⟨by rw [hno.out]; rfl,rfl⟩
end
end Go.Proofs.YteclineblddpbaaGreatDoorR
