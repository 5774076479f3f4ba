import Derived.Test.YtggimnndflkjkaaGreatDoorR01
import Derived.Test.YtggimnndflkjkaaGreatDoorR31
import Derived.Deep.DeepCutAuto
set_option linter.all false
set_option maxRecDepth 100000
set_option maxHeartbeats 0
namespace Go.Proofs.YtggimnndflkjkaaGreatDoor
section
open Go.RowKit Go.Maps
theorem zzk : zun.1:=by
 unfold zun;intro x w cA cc pc i79 hi79 hz79 hy79 hw79 i83 hi83 hz83 hy83 hw83 i72 hi72 hz72 hy72 hw72 i33 hi33 hz33 hy33 hw33 i9 hi9 hz9 hy9 hw9 htw hst Qx W0 G R hR1 hG2 Kx W kR1 hb1 M hGM kN hbr0 wr u6 u7 u21 u22 u23 u24 u25 u26 u27 u28 u29 u30 u31 u32 u33 u34 u35 u36 u37 u38 u39 u40 u41 u42 u43 u44 u45 u46 u47 u48 u49 u50 u51 u52 u53 u54 u55 u56 u57 u58 u59 u60 u61 u62 u63 u64 u65 u66 u67 u68 u69 u70 u71 u72 u73 u74 u75 u76 u77 u78 u79 u80 u81 u82 u83 u84 u85 u86 u87 u88 u89 u90 u91 u92 u93 u94 u95 u96 vr tl hN5 zhiy1 xhlty1 hxx hN5' rows0 hrows0' xKy3 xKy5 wr2 u9 u10 u11 u97 u98 u99 u100 u101 u102 u103 u104 u105 u106 u107 u108 u109 u110 u111 u112 u113 u114 u115 u116 u117 u118 u119 u120 u121 u122 u123 u124 u125 u126 u127 u128 u129 u130 u131 u132 u133 u134 u135 u136 u137 u138 u139 u140 u141 u142 u143 u144 u145 u146 u147 u148 u149 u150 u151 u152 u153 u154 u155 u156 u157 u158 u159 u160 u161 u162 u163 u164 u165 u166 u167 u168 u169 u170 u171 u172 u173 u174 u175 u176 u177 u178 u179 u180 u181 u182 u183 u184 u185 u186 u187 u188 u189 u190 u191 u192 u193 u194 u195 u196 u197 u198 u199 u200 u201 u202 u203 u204 u205 u206 u207 u208 u209 u210 u211 vr2 sl rs zhsly2 zhlty3 hsl hrsF zKy4 zKy5 zay6 wr3 u13 u14 u15 zuy7 u17 u19 zuy8 zuy9 zuy10 zuy11 zuy12 zuy13 zuy14 zuy15 zuy16 zuy17 zuy18 zuy19 zuy20 zuy21 zuy22 zuy23 zuy24 zuy25 zuy26 zuy27 zuy28 zuy29 zuy30 zuy31 zuy32 zuy33 zuy34 zuy35 zuy36 zuy37 zuy38 zuy39 zuy40 zuy41 zuy42 zuy43 zuy44 zuy45 zuy46 zuy47 zuy48 zuy49 zuy50 zuy51 zuy52 zuy53 zuy54 zuy55 zuy56 zuy57 zuy58 zuy59 zuy60 zuy61 zuy62 zuy63 zuy64 zuy65 zuy66 zuy67 zuy68 zuy69 zuy70 zuy71 zuy72 zuy73 zuy74 zuy75 zuy76 zuy77 zuy78 zuy79 zuy80 zuy81 zuy82 zuy83 zuy84 zuy85 zuy86 zuy87 zuy88 zuy89 zuy90 zuy91 zuy92 zuy93 zuy94 zuy95 zuy96 zuy97 zuy98 zuy99 zuy100 zuy101 zuy102 zuy103 zuy104 zuy105 zuy106 zuy107 u312 u313 u314 zuy108 zuy109 zuy110 zuy111 zuy112 zuy113 zuy114 zuy115 zuy116 zuy117 zuy118 zuy119 zuy120 zuy121 zuy122 zuy123 zuy124 zuy125 zuy126 zuy127 zuy128 zuy129 zuy130 zuy131 i pl hi n0 hpl hlt hl1 hl2 hi60 hil pb po hs' kS1 xQy2 xay4 k25 hpb n hn hptE zKy132 hqq' q hqN hqe tb tc ltb hMtb A4 n4 a4 hbt zQy133 zay134 hotb NP u hNP zKy135 w36 hbP kP k hke p hpE sA sc zQy136 zay137 zay138 qA qc hP hP36 wc u16 u212 u213 u214 u215 u216 u217 u218 u219 u220 u221 u222 u223 u224 u225 u226 u227 u228 u229 u230 u231 u232 u233 u234 u235 u236 u237 u238 u239 u240 u241 u242 u243 u244 u245 u246 u247 u248 u249 u250 u251 u252 u253 u254 u255 u256 u257 u258 u259 u260 u261 u262 u263 u264 u265 u266 u267 u268 u269 u270 u271 u272 u273 u274 u275 u276 u277 u278 u279 u280 u281 u282 u283 u284 u285 u286 u287 u288 u289 u290 u291 u292 u293 u294 u295 u296 u297 u298 u299 u300 u301 u302 u303 u304 u305 u306 u307 u308 u309 u310 u311 u315 u316 u317 u318 u319 u320 u321 u322 u323 u324 u325 u326 u327 u328 u329 u330 u331 u332 u333 u334 u335 u336 u337 u338 hcut;rename World=>w44;have hb44:=Hd hcut.out.1;have kP44:=Hd hcut.out.2;have hP44:=Hd (hP.out.up hb44.out);clear hcut hP36 kP hbP;have g3:=hP44.out.blk.cell 3;have lG:=hP44.out.blk.lt;simp at g3;go_wp2;clear g3 lG;have hpl60 : pl.length <= 60:=by rw [hpl.out]; exact Nat.le_trans (zew x i) (by omega)
 go_loopw [17,314] (fun tv kv wx=>∃ (m : Nat),m <= pl.length /\ kv = .int .i64 m /\ tv = .bool (zkx pl p m) /\ Hid (Below w44.heap.size w44 wx)) (fun _ kv _=>pl.length - (intOf kv).toNat)
 case atStart=>exact ⟨0,by omega,rfl,by rw [zsp],Hd (Below.refl _ _)⟩
 case round=>
  obtain ⟨m,hm,rfl,rfl,hbx⟩:=hrel;rename World=>wx;have p0 : (0 : Int) <= (m : Int):=by omega
  by_cases hml : m < pl.length
  ·have p1 : (m : Int) < (pl.length : Int):=by omega
   have hPx:=Hd (hP44.out.up hbx.out);obtain ⟨qb,qc',evq,lqb,hq8⟩:=hPx.out.point_at (by omega);injection evq with e1 _ e3;subst e1;subst e3;obtain ⟨b0,b1,b2,b3,b4,b5,b6,b7⟩:=hq8 m hml;have hsucc:=Hd (zso pl p m hml);generalize pl[m] = pm at *;clear hq8;go_upto_region 49 with fail;clear b0 b1 b2 b3 b4 b5 b6 b7;have kQ:=Hd (Blk.new wx 33 #[.int .i64 pm.id,.int .i64 pm.town,.int .i64 pm.street,.int .i64 pm.number,.string pm.letter,.string pm.unit,.int .i64 pm.box,.int .i64 pm.seq]);have hbq:=Hd (hbx.out.trans (((Below.refl wx.heap.size wx).alloc (lQ _) (.cells #[.int .i64 pm.id,.int .i64 pm.town,.int .i64 pm.street,.int .i64 pm.number,.string pm.letter,.string pm.unit,.int .i64 pm.box,.int .i64 pm.seq] 33)).mono hbx.out.size));have kPq:=Hd ((kP44.out.below hbx.out kP44.out.lt).alloc (.cells #[.int .i64 pm.id,.int .i64 pm.town,.int .i64 pm.street,.int .i64 pm.number,.string pm.letter,.string pm.unit,.int .i64 pm.box,.int .i64 pm.seq] 33));have hNQ : NP ≠ wx.heap.size:=by have:=kP44.out.lt; have:=hbx.out.size; omega
   have hwQ : w44.heap.size <= wx.heap.size:=hbx.out.size;generalize wx.alloc (.cells #[.int .i64 pm.id,.int .i64 pm.town,.int .i64 pm.street,.int .i64 pm.number,.string pm.letter,.string pm.unit,.int .i64 pm.box,.int .i64 pm.seq] 33) = wq at *;generalize wx.heap.size = QB at *;refine zT (C:=fun w1=>zc (fun b=>b ≠ QB) wq w1) [true,true,true,true,true,false,false] [5,6] (by kernel_rfl) (by kernel_rfl) (by kernel_rfl) (fun _ h=>zc.of_below h _) ?A49 ?q49 ?t49
   case q49=>
    intro S1 hS1 hSC hne;have y0:=fun (u : zaP S1)=>(kPq.out.keep (hSC u.wld u.mem) hNQ).cell 0;have y7:=fun (u : zaP S1)=>(kPq.out.keep (hSC u.wld u.mem) hNQ).cell 7;simp at y0 y7;simp only [zbM,if_true,if_false,Bool.false_eq_true]
    repeat (go_big_quiet_step (fail))
    refine wpQuiet_nil ?_;rfl
   refine zB [5] (by kernel_rfl) fun j hj wa hba=>?_;obtain rfl:=mS.1 hj;refine ⟨_,rfl,rfl,zy (ops:=#[]) (K:=fun a' w'=>(∀ w2,Below w'.heap.size w' w2 -> (fun w1=>zc (fun b=>b ≠ QB) wq w1) w2) /\ mkG Tryz.prog _ _ (fun w1=>zc (fun b=>b ≠ QB) wq w1) _ 1 [6] a' w') rfl fun Q' hQ=>?_⟩;simp only [gX,gQ,gZ];have kQa:=kQ.out.below hba kQ.out.lt;have s0:=kQa.cell 0;have f0:=kQa.frozen 0;have lQ:=kQa.lt;simp at s0;have kQ1:=Hd (kQa.set_ 0 (.int .i64 p.id));have hk1:=Hd ((zc.of_below hba (fun b=>b ≠ QB)).trans (zc.set_ wa ⟨QB,0,none⟩ (.int .i64 p.id) (fun h=>h rfl)));have hb1:=Hd ((hbq.out.trans (hba.mono hbq.out.size)).setCell (p:=⟨QB,0,none⟩) hwQ (.int .i64 p.id));clear kQa;go_wp2;refine hQ _ _ rfl ⟨fun w4 h4=>hk1.out.trans (zc.of_below h4 _),?_⟩;clear hQ hba s0 f0 lQ;generalize wa.setCell ⟨QB,0,none⟩ (.int .i64 p.id) = wb at *;refine zag [6] (.pointer (some ⟨QB,7,none⟩)) (by kernel_rfl) rfl (i:=6) rfl rfl (fun _ _=>rfl) (fun w2 h2=>hk1.out.trans (zc.of_below h2 _)) ?_;simp only [gX,gQ,gZ,Act.put,sX,sS,sZ];refine zaM rfl ?_;intro we hbe;have kQe:=kQ1.out.below hbe kQ1.out.lt;have s7:=kQe.cell 7;have f7:=kQe.frozen 7;have lQ:=kQe.lt;simp at s7;have kQ2:=Hd (kQe.set_ 7 (.int .i64 p.seq));have hb2:=Hd ((hb1.out.trans (hbe.mono hb1.out.size)).setCell (p:=⟨QB,7,none⟩) hwQ (.int .i64 p.seq));have hk2:=Hd ((hk1.out.trans (zc.of_below hbe (fun b=>b ≠ QB))).trans (zc.set_ we ⟨QB,7,none⟩ (.int .i64 p.seq) (fun h=>h rfl)));clear kQe kQ1 hb1 hk1 hbe;go_upto_region 50 with fail;clear s7 f7 lQ;generalize we.setCell ⟨QB,7,none⟩ (.int .i64 p.seq) = w2 at *;have kP2:=Hd (kPq.out.keep hk2.out hNQ);have x0:=kQ2.out.cell 0;have x1:=kQ2.out.cell 1;have x2:=kQ2.out.cell 2;have x3:=kQ2.out.cell 3;have x4:=kQ2.out.cell 4;have x5:=kQ2.out.cell 5;have x6:=kQ2.out.cell 6;have x7:=kQ2.out.cell 7;have lx:=kQ2.out.lt;have z0:=kP2.out.cell 0;have z1:=kP2.out.cell 1;have z2:=kP2.out.cell 2;have z3:=kP2.out.cell 3;have z4:=kP2.out.cell 4;have z5:=kP2.out.cell 5;have z6:=kP2.out.cell 6;have z7:=kP2.out.cell 7;have lz:=kP2.out.lt;simp at x0 x1 x2 x3 x4 x5 x6 x7 z0 z1 z2 z3 z4 z5 z6 z7;generalize zkx pl p m = bm at *
   cases bm with
   | true=>
    go_wp2;go_roundw
    case rel=>exact ⟨m + 1,by omega,by go_num,by rw [hsucc.out]; rfl,Hd hb2.out⟩
    case measure=>simp [intOf]; omega
   | false=>
    by_cases e0 : pm.town = p.town
    ·by_cases e1 : pm.street = p.street
     ·by_cases e2 : pm.number = p.number
      ·by_cases e3 : pm.letter = p.letter
       ·have e3':=congrArg ByteArray.toList e3
        by_cases e4 : pm.unit = p.unit
        ·have e4':=congrArg ByteArray.toList e4
         by_cases e5 : pm.box = p.box
         ·have hE : Hid (zaC pm = zaC p):=Hd (by unfold zaC; rw [e0,e1,e2,e3,e4,e5])
          clear e3 e4;go_wp2;go_roundw
          case rel=>exact ⟨m + 1,by omega,by go_num,by rw [hsucc.out,hE.out]; simp,Hd hb2.out⟩
          case measure=>simp [intOf]; omega
         ·have hE : Hid (decide (zaC pm = zaC p) = false):=Hd (decide_eq_false fun h=>by unfold zaC at h; rw [zgp.mk.injEq] at h; exact e5 h.2.2.2.2.2)
          clear e3 e4;go_wp2;go_roundw
          case rel=>exact ⟨m + 1,by omega,by go_num,by rw [hsucc.out,hE.out]; rfl,Hd hb2.out⟩
          case measure=>simp [intOf]; omega
        ·have hE : Hid (decide (zaC pm = zaC p) = false):=Hd (decide_eq_false fun h=>by unfold zaC at h; rw [zgp.mk.injEq] at h; exact e4 h.2.2.2.2.1)
         have e4' : ¬ pm.unit.toList = p.unit.toList:=fun h=>e4 (zsg h);clear e3 e4;go_wp2;go_roundw
         case rel=>exact ⟨m + 1,by omega,by go_num,by rw [hsucc.out,hE.out]; rfl,Hd hb2.out⟩
         case measure=>simp [intOf]; omega
       ·have hE : Hid (decide (zaC pm = zaC p) = false):=Hd (decide_eq_false fun h=>by unfold zaC at h; rw [zgp.mk.injEq] at h; exact e3 h.2.2.2.1)
        have e3' : ¬ pm.letter.toList = p.letter.toList:=fun h=>e3 (zsg h);clear e3;go_wp2;go_roundw
        case rel=>exact ⟨m + 1,by omega,by go_num,by rw [hsucc.out,hE.out]; rfl,Hd hb2.out⟩
        case measure=>simp [intOf]; omega
      ·have hE : Hid (decide (zaC pm = zaC p) = false):=Hd (decide_eq_false fun h=>by unfold zaC at h; rw [zgp.mk.injEq] at h; exact e2 h.2.2.1)
       go_wp2;go_roundw
       case rel=>exact ⟨m + 1,by omega,by go_num,by rw [hsucc.out,hE.out]; rfl,Hd hb2.out⟩
       case measure=>simp [intOf]; omega
     ·have hE : Hid (decide (zaC pm = zaC p) = false):=Hd (decide_eq_false fun h=>by unfold zaC at h; rw [zgp.mk.injEq] at h; exact e1 h.2.1)
      go_wp2;go_roundw
      case rel=>exact ⟨m + 1,by omega,by go_num,by rw [hsucc.out,hE.out]; rfl,Hd hb2.out⟩
      case measure=>simp [intOf]; omega
    ·have hE : Hid (decide (zaC pm = zaC p) = false):=Hd (decide_eq_false fun h=>by unfold zaC at h; rw [zgp.mk.injEq] at h; exact e0 h.1)
     go_wp2;go_roundw
     case rel=>exact ⟨m + 1,by omega,by go_num,by rw [hsucc.out,hE.out]; rfl,Hd hb2.out⟩
     case measure=>simp [intOf]; omega
  ·obtain rfl : m = pl.length:=by omega
   have p1 : ¬ (pl.length : Int) < (pl.length : Int):=by omega
   rename World=>wq;have hBq:=Hd (hP44.out.up hbx.out);have kPx:=Hd (kP44.out.below hbx.out kP44.out.lt);have hadd : Hid (zba x (i + 1) = if zkx pl p pl.length then pl else pl ++ [p]):=Hd (by rw [hptE.out,<- hpl.out,<- hpE.out,zuh]; rfl);have htl : Hid (pl.length <= 60):=Hd hpl60;clear hP44 kP44 hb44;generalize zkx pl p pl.length = tw at *
   cases tw with
   | true=>
    have hN : Hid (pl = zba x (i + 1)):=Hd hadd.out.symm;go_wp2;go_roundw
    case rel=>exact ⟨i + 1,_,_,by omega,by go_num,Hd ⟨hBq.out,hN.out⟩⟩
    case measure=>simp [intOf]; omega
   | false=>
    have hN : Hid (pl ++ [p] = zba x (i + 1)):=Hd hadd.out.symm;have z0:=kPx.out.cell 0;have z1:=kPx.out.cell 1;have z2:=kPx.out.cell 2;have z3:=kPx.out.cell 3;have z4:=kPx.out.cell 4;have z5:=kPx.out.cell 5;have z6:=kPx.out.cell 6;have z7:=kPx.out.cell 7;have lz:=kPx.out.lt;simp at z0 z1 z2 z3 z4 z5 z6 z7;clear hadd;have hneG : some G ≠ Value.ownBlock (.slice qA pl.length qc):=fun e=>by have:=(hBq.out.p.block_lt e.symm).1; omega
    have hkG:=hBq.out.blk;have g0:=hkG.cell 3;have lG:=hkG.lt;simp at g0;have hwn:=(Below.refl wq.heap.size wq).alloc (lQ _) (.cells #[.int .i64 p.id,.int .i64 p.town,.int .i64 p.street,.int .i64 p.number,.string p.letter,.string p.unit,.int .i64 p.box,.int .i64 p.seq] 33);have hBn:=Hd (hBq.out.up hwn);have sd1 : pl.length + 1 <= maxLen:=by have:=htl.out; unfold maxLen; omega
    have sd2 : (pl.length + 1) * 80 <= 140737488355328:=by have:=htl.out; omega
    have sd3 : M + 1 <= (wq.alloc (.cells #[.int .i64 p.id,.int .i64 p.town,.int .i64 p.street,.int .i64 p.number,.string p.letter,.string p.unit,.int .i64 p.box,.int .i64 p.seq] 33)).heap.size:=by have:=hBn.out.order.2.2; omega
    have hA:=Hd (fun (ops : Array Oper) (rest : List Oper) (o : Oper) (a : Act) (Q : Exit -> Act -> World -> Prop) hgd ho' hs hx h=>wpList_append_lies (P:=Tryz.prog) (ops:=ops) (rest:=rest) (o:=o) (a:=a) (Q:=Q) (wq.alloc (.cells #[.int .i64 p.id,.int .i64 p.town,.int .i64 p.street,.int .i64 p.number,.string p.letter,.string p.unit,.int .i64 p.box,.int .i64 p.seq] 33)) hgd (.tmp 334) (.tmp 336) 29 ho' (M + 1) 33 i33 (.agg #[.int .i64 0,.int .i64 0,.int .i64 0,.int .i64 0,.string ⟨#[]⟩,.string ⟨#[]⟩,.int .i64 0,.int .i64 0]) 8 80 Tryz.underlying29 hi33 hz33 hy33 hw33 rfl (by decide) (.slice qA pl.length qc) pl.length (pl.flatMap zds) hs hBn.out.p.1 ⟨wq.heap.size,0,none⟩ 1 1 [.int .i64 p.id,.int .i64 p.town,.int .i64 p.street,.int .i64 p.number,.string p.letter,.string p.unit,.int .i64 p.box,.int .i64 p.seq] hx rfl (World.news_of_block (cs:=#[.int .i64 p.id,.int .i64 p.town,.int .i64 p.street,.int .i64 p.number,.string p.letter,.string p.unit,.int .i64 p.box,.int .i64 p.seq]) (heap_alloc_new _ _)) (zfT p) (by decide) sd1 sd2 sd3 _ rfl h);clear sd1 sd2 sd3 hkG;go_upto_region 34 with (first | (refine Go.Great.wpList_buildSliceTo rfl 29 33 1 _ rfl wq.heap.size rfl (some 336) rfl Tryz.underlying29 #[.int .i64 p.id,.int .i64 p.town,.int .i64 p.street,.int .i64 p.number,.string p.letter,.string p.unit,.int .i64 p.box,.int .i64 p.seq] (by kernel_rfl) ?_) | (at_builtin; refine hA.out _ _ _ _ _ rfl rfl rfl rfl ?_; intro g cap1 wC hownC hgrC hatC hltC; have kGC:=Blk.grown hBn.out.blk hgrC hneG; have y0:=kGC.cell 3; have yf:=kGC.frozen 3; have yl:=kGC.lt; simp only [List.getElem?_toArray,List.getElem?_cons_succ,List.getElem?_cons_zero] at y0; clear kGC));have hB1:=Hd (BR.add_p (ls:=[p]) hBn.out hownC rfl hgrC (hatC.imp_right fun e=>by rw [e]; exact lQ _));clear hA hownC hgrC hatC hltC y0 yf yl g0 lG hneG hwn hBn;generalize wC.setCell ⟨G,3,none⟩ (.slice (some ⟨g,0,none⟩) (pl.length + 1) cap1) = wu at *;clear z0 z1 z2 z3 z4 z5 z6 z7 lz kPx hBq;go_wp2;go_roundw
    case rel=>exact ⟨i + 1,_,_,by omega,by go_num,Hd ⟨hB1.out,hN.out⟩⟩
    case measure=>simp [intOf]; omega
end
section
open Go.RowKit Go.Maps
theorem zwG (x : zi) (vc vp : Value) (w : World) (hs : zbS w vc vp x) :
  Calls Tryz.prog 23 #[.agg #[.int .u8 (x.towns : Int),.int .u8 (x.streets : Int),vc,vp]] w fun e w'=>∃ vt vs vr vq,e = .returned (.agg #[vt,vs,vr,vq]) /\ (∀ w2,zc (fun b=>w.heap.size <= b) w' w2 -> zaf w2 vt vs vr vq (zb x)) /\ Below w.heap.size w w':=
 zul.2 ⟨zum.2 ⟨zun.2 ⟨zzk⟩⟩⟩ x vc vp w hs
end
end Go.Proofs.YtggimnndflkjkaaGreatDoor
