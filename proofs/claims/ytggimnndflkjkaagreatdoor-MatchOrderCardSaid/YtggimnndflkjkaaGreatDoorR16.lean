import Derived.Test.YtggimnndflkjkaaGreatDoorR01
import Derived.Test.YtggimnndflkjkaaGreatDoorR15
set_option linter.all false
set_option maxRecDepth 100000
set_option maxHeartbeats 0
namespace Go.Proofs.YtggimnndflkjkaaGreatDoor
section
open Go.RowKit Go.Maps
def zgg (rs : List zj) (p : zh) : zj × Bool:=zA zj.zero (fun g=>zbf g (zW p)) (zdT (p.town,p.street) rs)
def zaC (p : zh) : zgp:=⟨p.town,p.street,p.number,p.letter,p.unit,p.box⟩
def zeN (towns : List zJ) (S : List (Int × Int)) (rs : List zj) (P : List Int) (A : List zgp) (Q : List (Int × Int)) (p : zh) : Bool:=
 (zS towns p.town).isSome && (zcn p.id && (!zcg p.id P && (zcE S p.street p.town && (zaZ p ((zS towns p.town).getD zJ.zero).country && (!zcg (zaC p) A && ((zgg rs p).2 && (zcn p.seq && !zcg ((zgg rs p).1.route,p.seq) Q)))))))
theorem zoU {p : zh} {c : Int} (h : zaZ p c = true) : 0 <= zW p /\ zW p <= 1000000:=by
 unfold zaZ at h;unfold zW;by_cases h0 : p.street = 0
 ·rw [if_pos h0] at h
  rw [if_pos h0];simp [zcn] at h;omega
 ·rw [if_neg h0] at h
  rw [if_neg h0]
  split at h
  ·cases h
  ·rename_i hn
   simp [zcn] at hn;omega
variable {w0 w : World} {N n : Nat} {L : zhr} {M4 : List ((Int × Int) × Value)} {rs : List zj}
theorem zqN (h : CS w0 N n w L M4 rs) (p : zh) (hpi : zam p.id) (htw : zam p.town) (hst : zam p.street) (hnm : zam p.number) (hbx : zam p.box) (hsq : zam p.seq) (hru : ∀ g ∈ rs,zam g.route) (hsz : p.letter.size <= 1000000 /\ p.unit.size <= 1000000) (hn : n < 900000) :
  Calls Tryz.prog 76 #[.pointer (some ⟨N + 8,0,none⟩),.agg (zaz p)] w fun e w'=>e = .returned (.bool (zeN (L.towns.map (·.1)) L.streets rs L.points L.addrs L.places p)) /\ Below w0.heap.size w0 w' /\
   (zeN (L.towns.map (·.1)) L.streets rs L.points L.addrs L.places p = true -> CS w0 N (n + 3) w' { L with points:=p.id :: L.points,addrs:=zaC p :: L.addrs,places:=((zgg rs p).1.route,p.seq) :: L.places } M4 rs):=by
 have hb1 : Below w.heap.size w (w.alloc (.cells (zaz p) 33)):=(Below.refl _ _).alloc (lQ _) _;have kT:=Hd (Blk.new w 33 (zaz p));have h1:=Hd (h.up hb1);clear h hb1;obtain ⟨⟨vi,vc,vn,vr,vcs⟩,vA,vm,vk,-,hvt,hlk⟩:=h1.out.town_look p.town htw
 have hct : ((zS (L.towns.map (·.1)) p.town).getD zJ.zero).country = vc:=by
  rcases hvt with h | ⟨h,h2⟩
  ·rw [h]; rfl
  ·rw [h,<- h2]; rfl
 have hd : Hid (zeN (L.towns.map (·.1)) L.streets rs L.points L.addrs L.places p = ((zS (L.towns.map (·.1)) p.town).isSome && (zcn p.id && (!zcg p.id L.points && (zcE L.streets p.street p.town && (zaZ p ((zS (L.towns.map (·.1)) p.town).getD zJ.zero).country && (!zcg (zaC p) L.addrs && ((zgg rs p).2 && (zcn p.seq && !zcg ((zgg rs p).1.route,p.seq) L.places))))))))):=Hd rfl;rw [hct] at hd;have hlk0:=Hd hlk;have hpn:=Hd fun (h : zaZ p vc = true)=>zoU h;have hpl:=Hd fun (W : World)=>zqk p vc W hsz.2;have hnum:=Hd fun (W : World)=>zoO p W;have hfd : Hid (zgg rs p = zA zj.zero (fun g=>zbf g (zW p)) (zdT (p.town,p.street) rs)):=Hd rfl;clear hlk hct hvt;generalize hr : zeN (L.towns.map (·.1)) L.streets rs L.points L.addrs L.places p = r at *;generalize (zS (L.towns.map (·.1)) p.town).isSome = sf at *;generalize zaZ p vc = hp at *;generalize hho : zgg rs p = ho at *;generalize zW p = nb at *;have hao : Hid (zaC p = ⟨p.town,p.street,p.number,p.letter,p.unit,p.box⟩):=Hd rfl;generalize zaC p = ao at *;obtain ⟨pid,town,street,number,letter,unit,box,seq⟩:=p;simp only at hd hlk0 hpi htw hst hnm hbx hsq hfd hsz hao ⊢;unfold zaz at *;simp only at kT h1 hpl hnum;go_enter Tryz.func76,Tryz.ntmps76;go_wp2;generalize w.alloc _ = W at *;generalize hT : w.heap.size = T at *;have g0:=h1.out.blk.cell 0;have t1:=kT.out.cell 1;have lB:=h1.out.blk.lt;have lT:=kT.out.lt;have hk1:=hlk0.out _ _ (h1.out.up ((Below.refl _ _).drew));have hk2:=hlk0.out _ _ (h1.out.up (((Below.refl W.heap.size W).alloc (lQ _) (.cells #[.int .i64 0,.int .u8 0,.string ⟨#[]⟩,.string ⟨#[]⟩,.slice none 0 0] 79)).drew));unfold zcB at hk1 hk2;simp at g0 t1;refine zez ?A1 (fun w'=>Below W.heap.size W w' /\ Blk w' W.heap.size 79 #[.int .i64 vi,.int .u8 vc,.string vn,.string vr,.slice vA vm vk]) ?h1 ?h2
 case h1=>
  intro Q' hQ
  go_region
  all_goals exact hQ _ ⟨((Below.refl _ _).alloc (lQ _) _).drew,Blk.new W 79 _⟩
 rintro W1 ⟨hb1,kV⟩;have h2:=Hd (h1.out.up hb1);have kT1:=Hd (kT.out.below hb1 kT.out.lt);have kV1:=Hd kV;generalize W.heap.size = V at *;clear hb1 h1 kT g0 t1 hk1 hk2 hlk0 lB lT kV;go_upto_region 2 with fail;have g5:=fun (u : Ups W1)=>(h2.out.up u.up).blk.cell 5;have t0:=fun (u : Ups W1)=>(kT1.out.ups u).cell 0;have t1:=fun (u : Ups W1)=>(kT1.out.ups u).cell 1;have t2:=fun (u : Ups W1)=>(kT1.out.ups u).cell 2;have hlk5:=fun (u : Ups W1)=>(h2.out.up u.up).m5.look zdf Tryz.underlying190 (zwu _) pid (zaJ pid hpi);have hin:=Hd fun (u : Ups W1)=>zow (h2.out.up u.up) street town hst;have hisid:=Hd (ziO pid);simp only [zgR,zY] at hlk5;simp at g5 t0 t1 t2
 cases sf with
 | false=>
  refine zC (by kernel_rfl) (by kernel_rfl) ?_
  repeat (go_big_quiet_step (first | (go_at_call 113; exact zaa (hisid.out _)) | (go_at_call 119; exact zaa (hin.out _))))
  refine wpQuiet_nil ?_;rintro _ ⟨u,rfl⟩;have hend:=(h2.out.up u.up).below;clear g5 t0 t1 t2 hlk5 hin;go_wp2;go_ret;exact ⟨zf (by rw [hd.out]; first | done | rfl | simp),hend,fun h=>by rw [hd.out] at h; first | (cases h; done) | simp at h⟩
 | true=>
 cases b1 : zcn pid with
 | false=>
  rw [b1] at hd hisid;refine zC (by kernel_rfl) (by kernel_rfl) ?_
  repeat (go_big_quiet_step (first | (go_at_call 113; exact zaa (hisid.out _)) | (go_at_call 119; exact zaa (hin.out _))))
  refine wpQuiet_nil ?_;rintro _ ⟨u,rfl⟩;have hend:=(h2.out.up u.up).below;clear g5 t0 t1 t2 hlk5 hin;go_wp2;go_ret;exact ⟨zf (by rw [hd.out]; first | done | rfl | simp),hend,fun h=>by rw [hd.out] at h; first | (cases h; done) | simp at h⟩
 | true=>
 rw [b1] at hd hisid
 cases b2 : zcg pid L.points with
 | true=>
  rw [b2] at hd;simp only [b2] at hlk5;refine zC (by kernel_rfl) (by kernel_rfl) ?_
  repeat (go_big_quiet_step (first | (go_at_call 113; exact zaa (hisid.out _)) | (go_at_call 119; exact zaa (hin.out _))))
  refine wpQuiet_nil ?_;rintro _ ⟨u,rfl⟩;have hend:=(h2.out.up u.up).below;clear g5 t0 t1 t2 hlk5 hin;go_wp2;go_ret;exact ⟨zf (by rw [hd.out]; first | done | rfl | simp),hend,fun h=>by rw [hd.out] at h; first | (cases h; done) | simp at h⟩
 | false=>
 rw [b2] at hd;simp only [b2] at hlk5
 cases b3 : zcE L.streets street town with
 | false=>
  rw [b3] at hd hin;refine zC (by kernel_rfl) (by kernel_rfl) ?_
  repeat (go_big_quiet_step (first | (go_at_call 113; exact zaa (hisid.out _)) | (go_at_call 119; exact zaa (hin.out _))))
  refine wpQuiet_nil ?_;rintro _ ⟨u,rfl⟩;have hend:=(h2.out.up u.up).below;clear g5 t0 t1 t2 hlk5 hin;go_wp2;go_ret;exact ⟨zf (by rw [hd.out]; first | done | rfl | simp),hend,fun h=>by rw [hd.out] at h; first | (cases h; done) | simp at h⟩
 | true=>
 rw [b3] at hd hin;refine zC (by kernel_rfl) (by kernel_rfl) ?_
 repeat (go_big_quiet_step (first | (go_at_call 113; exact zaa (hisid.out _)) | (go_at_call 119; exact zaa (hin.out _))))
 refine wpQuiet_nil ?_;rintro _ ⟨u,rfl⟩;simp only [Bool.true_and,Bool.not_false] at hd;have h3:=Hd (h2.out.up u.up);have kT3:=Hd (kT1.out.ups u);have kV3:=Hd (kV1.out.ups u);clear g5 t0 t1 t2 hlk5 hin hisid b1 b2 b3 h2 kT1 kV1;generalize u.wld = W3 at *;have t0:=kT3.out.cell 0;have t1:=kT3.out.cell 1;have t2:=kT3.out.cell 2;have t3:=kT3.out.cell 3;have t4:=kT3.out.cell 4;have t5:=kT3.out.cell 5;have t6:=kT3.out.cell 6;have t7:=kT3.out.cell 7;have lT:=kT3.out.lt;have v1:=kV3.out.cell 1;have lV:=kV3.out.lt;simp at t0 t1 t2 t3 t4 t5 t6 t7 v1;go_wp2_with fail;refine (hpl.out _).mono ?_;rintro e w4 ⟨rfl,hb4⟩;have h4:=Hd (h3.out.up hb4);have kT4:=Hd (kT3.out.below hb4 kT3.out.lt);clear hb4 h3 kT3 kV3 t0 t1 t2 t3 t4 t5 t6 t7 v1 lT lV hpl
 cases hp with
 | false=>
  go_wp2;go_ret;exact ⟨zf (by rw [hd.out]; first | done | rfl | simp),h4.out.below,fun h=>by rw [hd.out] at h; first | (cases h; done) | simp at h⟩
 | true=>
 simp only [Bool.true_and] at hd;obtain ⟨hn0,hn1⟩:=hpn.out rfl;have t0:=kT4.out.cell 0;have t1:=kT4.out.cell 1;have t2:=kT4.out.cell 2;have t3:=kT4.out.cell 3;have t4:=kT4.out.cell 4;have t5:=kT4.out.cell 5;have t6:=kT4.out.cell 6;have t7:=kT4.out.cell 7;have lT:=kT4.out.lt;simp at t0 t1 t2 t3 t4 t5 t6 t7;have hb5 : Below w4.heap.size w4 (w4.alloc (.cells #[.int .i64 town,.int .i64 street,.int .i64 number,.string letter,.string unit,.int .i64 box] 206)):=(Below.refl _ _).alloc (lQ _) _;have kA:=Hd (Blk.new w4 206 #[.int .i64 town,.int .i64 street,.int .i64 number,.string letter,.string unit,.int .i64 box]);have hb5':=Hd hb5;have hN4:=Hd h4.out.blk.lt;clear hb5;go_wp2_with fail;refine (hnum.out _).mono ?_;rintro e w5 ⟨rfl,hb6⟩;have hb7:=hb5'.out.trans (hb6.mono hb5'.out.size);have h5:=Hd (h4.out.up hb7);have kT5:=Hd (kT4.out.below hb7 kT4.out.lt);have kA5:=Hd (kA.out.below hb6 kA.out.lt);clear hb5' hb6 hb7 h4 kT4 kA hnum t0 t1 t2 t3 t4 t5 t6 t7 lT hpn;have hGN : Hid (N + 8 < w4.heap.size):=Hd hN4.out;generalize w4.heap.size = GA at *;have hb8 : Below w5.heap.size w5 (w5.alloc (.cells #[.int .i64 nb] 3)):=(Below.refl _ _).alloc (lQ _) _;have kN:=Hd (Blk.new w5 3 #[.int .i64 nb]);have h6:=Hd (h5.out.up hb8);have kT6:=Hd (kT5.out.below hb8 kT5.out.lt);have kA6:=Hd (kA5.out.below hb8 kA5.out.lt);clear hb8 h5 kT5 kA5;go_upto_region 8 with fail;generalize w5.alloc (.cells #[.int .i64 nb] 3) = W6 at *;generalize w5.heap.size = GN at *;obtain ⟨kl,hkl⟩:=znq (town,street) htw hst;have g4:=h6.out.blk.cell 4;have t1:=kT6.out.cell 1;have t2:=kT6.out.cell 2;have lB:=h6.out.blk.lt;have lT:=kT6.out.lt;obtain ⟨vv,hvv⟩ : ∃ vv,orV id (Value.slice none 0 0) (zbR (town,street) M4) = vv:=⟨_,rfl⟩;have hrow : ∀ W',Below W6.heap.size W6 W' -> zbx (N + 9) W' vv (zdT (town,street) rs):=fun W' hW=>by rw [<- hvv]; exact (h6.out.up hW).rows.row (town,street)
 have hlk : ∀ W',Below W6.heap.size W6 W' -> (Instr.lookup 189 (.map (some (N + 4))) (.agg #[.int .i64 town,.int .i64 street]) false).run Tryz.prog W' = .ok vv W':=fun W' hW=>by
  have:=(h6.out.up hW).m4.look zkd Tryz.underlying189 (znS _) (town,street) hkl;rw [show orV (@id Value) (.slice none 0 0) (zbR (town,street) M4) = vv from hvv] at this;exact this
 have hfi:=Hd fun (W' : World) (hW : Below W6.heap.size W6 W')=>zwP GN (fun g=>zbf g nb) vv (zdT (town,street) rs) W' (zbx.ranges (hrow W' hW)) fun W2 x hW2 _=>zyd x GN nb W2 hn0 hn1 (((kN.out.below hW kN.out.lt).below hW2 (Nat.lt_of_lt_of_le kN.out.lt hW.size)).cell 0);rw [<- hfd.out] at hfi;clear hrow;have hlk1:=hlk _ (Below.refl _ _).drew;have hlk2:=hlk _ ((Below.refl W6.heap.size W6).alloc (lQ _) (.cells #[.int .i64 0,.int .i64 0,.int .i64 0,.int .i64 0,.int .u8 0,.string ⟨#[]⟩,.int .i64 0] 72)).drew;obtain ⟨⟨rt,rst,rlo,rhi,rpa,rco,rro⟩,rok⟩:=ho;unfold zaV at hfi;simp only at hfi;clear hlk;simp at g4 t1 t2;have hdr : Below W6.heap.size W6 W6.drew:=(Below.refl _ _).drew;have hal : Below W6.heap.size W6 (W6.alloc (.cells #[.int .i64 0,.int .i64 0,.int .i64 0,.int .i64 0,.int .u8 0,.string ⟨#[]⟩,.int .i64 0] 72)).drew:=((Below.refl _ _).alloc (lQ _) _).drew;have kZ : Blk (W6.alloc (.cells #[.int .i64 0,.int .i64 0,.int .i64 0,.int .i64 0,.int .u8 0,.string ⟨#[]⟩,.int .i64 0] 72)).drew W6.heap.size 72 #[.int .i64 0,.int .i64 0,.int .i64 0,.int .i64 0,.int .u8 0,.string ⟨#[]⟩,.int .i64 0]:=Blk.new W6 72 _;have hdr':=Hd hdr;have hal':=Hd hal;have kZ':=Hd kZ;have hS : ∀ W',Below W6.heap.size W6 W' -> W'.cell? ⟨N + 8,4,none⟩ = some (.map (some (N + 4))) /\ W'.cell? ⟨T,1,none⟩ = some (.int .i64 town) /\ W'.cell? ⟨T,2,none⟩ = some (.int .i64 street):=fun W' hW=>⟨(h6.out.up hW).blk.cell 4,(kT6.out.below hW kT6.out.lt).cell 1,(kT6.out.below hW kT6.out.lt).cell 2⟩;have hS':=Hd hS;have hq1 : N + 8 ≠ W6.heap.size:=Nat.ne_of_lt lB;have hq2 : T ≠ W6.heap.size:=Nat.ne_of_lt lT;have hq3 : W6.heap.size ≠ N + 8:=hq1.symm;have hq4 : W6.heap.size ≠ T:=hq2.symm;clear hdr hal kZ hS
 go_cut [4,7,9,10] (fun s4 s7 s9 s10 wx=>∃ g,s4 = .bool false /\ s7 = .pointer (some ⟨GA,0,none⟩) /\ s9 = .pointer (some ⟨g,0,none⟩) /\ s10 = .bool rok /\ Below W6.heap.size W6 wx /\ Blk wx g 72 #[.int .i64 rt,.int .i64 rst,.int .i64 rlo,.int .i64 rhi,.int .u8 rpa,.string rco,.int .i64 rro])
 case first=>
  go_region_held3 (fun w'=>w'.cell? ⟨N + 8,4,none⟩ = some (.map (some (N + 4))) /\ w'.cell? ⟨T,1,none⟩ = some (.int .i64 town) /\ w'.cell? ⟨T,2,none⟩ = some (.int .i64 street)) (first | go_keep | (refine ⟨?_,?_,?_⟩ <;> simp [*])) (first | (go_at_call 69; (with_reducible refine (hfi.out W6.drew hdr'.out).mono ?_); rintro e w7 ⟨rfl,hb7⟩; have hw7:=Hd (hdr'.out.trans (hb7.mono hdr'.out.size)); obtain ⟨q4,q1,q2⟩:=hS'.out w7 hw7.out; have l7:=hb7.size) | (go_at_call 69; (with_reducible refine (hfi.out _ hal'.out).mono ?_); rintro e w7 ⟨rfl,hb7⟩; have hw7:=Hd (hal'.out.trans (hb7.mono hal'.out.size)); obtain ⟨q4,q1,q2⟩:=hS'.out w7 hw7.out; have kz:=kZ'.out.below hb7 kZ'.out.lt; have lz:=kz.lt; have y0:=kz.cell 0; have y1:=kz.cell 1; have y2:=kz.cell 2; have y3:=kz.cell 3; have y4:=kz.cell 4; have y5:=kz.cell 5; have y6:=kz.cell 6; have f0:=kz.frozen 0; have f1:=kz.frozen 1; have f2:=kz.frozen 2; have f3:=kz.frozen 3; have f4:=kz.frozen 4; have f5:=kz.frozen 5; have f6:=kz.frozen 6; simp at y0 y1 y2 y3 y4 y5 y6))
  all_goals
   go_wp2_with fail;go_meet
   case rel=>
    refine ⟨_,rfl,rfl,rfl,rfl,?_,?_⟩
    ·first | with_reducible exact hw7.out.alloc hw7.out.size _ | with_reducible exact (((((((hw7.out.setCell (p:=⟨W6.heap.size,0,none⟩) (lQ _) _).setCell (p:=⟨W6.heap.size,1,none⟩) (lQ _) _).setCell (p:=⟨W6.heap.size,2,none⟩) (lQ _) _).setCell (p:=⟨W6.heap.size,3,none⟩) (lQ _) _).setCell (p:=⟨W6.heap.size,4,none⟩) (lQ _) _).setCell (p:=⟨W6.heap.size,5,none⟩) (lQ _) _).setCell (p:=⟨W6.heap.size,6,none⟩) (lQ _) _)
    ·first | with_reducible exact Blk.new w7 72 _ | exact (((((((kz.set_ 0 _).set_ 1 _).set_ 2 _).set_ 3 _).set_ 4 _).set_ 5 _).set_ 6 _)
 obtain ⟨g,rfl,rfl,rfl,rfl,hb7,kH⟩:=hcut;have h7:=Hd (h6.out.up hb7);have kT7:=Hd (kT6.out.below hb7 kT6.out.lt);have kA7:=Hd (kA6.out.below hb7 kA6.out.lt);have kH':=Hd kH
 have hrf : Hid (rok = true -> zam rro):=Hd fun hk=>by
  have hm:=zcp zj.zero (fun g=>zbf g nb) (zdT (town,street) rs) (by rw [<- hfd.out]; exact hk);rw [<- hfd.out] at hm;exact hru _ (List.mem_filter.1 hm.1).1
 clear hb7 h6 kT6 kA6 kN hfi hdr' hal' kZ' hS' hq1 hq2 hq3 hq4 hlk1 hlk2 g4 t1 t2 lB lT kH hvv;have t7:=kT7.out.cell 7;have lT:=kT7.out.lt;have r6:=kH'.out.cell 6;have lH:=kH'.out.lt;simp at t7 r6;have hb8 : Below wc.heap.size wc (wc.alloc (.cells #[.int .i64 rro,.int .i64 seq] 202)):=(Below.refl _ _).alloc (lQ _) _;have kP:=Hd (Blk.new wc 202 #[.int .i64 rro,.int .i64 seq]);have h8:=Hd (h7.out.up hb8);have kT8:=Hd (kT7.out.below hb8 kT7.out.lt);have kA8:=Hd (kA7.out.below hb8 kA7.out.lt);clear hb8;go_upto_region 10 with fail;generalize wc.alloc (.cells #[.int .i64 rro,.int .i64 seq] 202) = W8 at *;have hGP : Hid (N + 8 < wc.heap.size):=Hd h7.out.blk.lt;generalize wc.heap.size = GP at *;clear h7 kT7 kA7 kH' t7 r6 lT lH;have hao2:=hao.out;subst hao2;obtain ⟨kl6,hkl6⟩:=zsV ⟨town,street,number,letter,unit,box⟩ htw hst hnm (by unfold maxLen; simp only; omega) (by unfold maxLen; simp only; omega) hbx;have g6:=fun (u : Ups W8)=>(h8.out.up u.up).blk.cell 6;have g7:=fun (u : Ups W8)=>(h8.out.up u.up).blk.cell 7;have a0:=fun (u : Ups W8)=>(kA8.out.ups u).cell 0;have a1:=fun (u : Ups W8)=>(kA8.out.ups u).cell 1;have a2:=fun (u : Ups W8)=>(kA8.out.ups u).cell 2;have a3:=fun (u : Ups W8)=>(kA8.out.ups u).cell 3;have a4:=fun (u : Ups W8)=>(kA8.out.ups u).cell 4;have a5:=fun (u : Ups W8)=>(kA8.out.ups u).cell 5;have t7:=fun (u : Ups W8)=>(kT8.out.ups u).cell 7;have p0:=fun (u : Ups W8)=>(kP.out.ups u).cell 0;have p1:=fun (u : Ups W8)=>(kP.out.ups u).cell 1;have hlk6:=fun (u : Ups W8)=>(h8.out.up u.up).m6.look zrO Tryz.underlying191 (zwu _) _ hkl6;have hisid:=Hd (ziO seq);simp only [zgR,zdX] at hlk6;simp at g6 g7 a0 a1 a2 a3 a4 a5 t7 p0 p1
 cases b1 : zcg ⟨town,street,number,letter,unit,box⟩ L.addrs with
 | true=>
  rw [b1] at hd;simp only [b1] at hlk6;refine zC (by kernel_rfl) (by kernel_rfl) ?_
  repeat (go_big_quiet_step (first | (go_at_call 113; exact zaa (hisid.out _))))
  refine wpQuiet_nil ?_;rintro _ ⟨u,rfl⟩;have hend:=(h8.out.up u.up).below;clear g6 g7 a0 a1 a2 a3 a4 a5 t7 p0 p1 hlk6;go_wp2;go_ret;exact ⟨zf (by rw [hd.out]; first | done | rfl | simp),hend,fun h=>by rw [hd.out] at h; first | (cases h; done) | simp at h⟩
 | false=>
 rw [b1] at hd;simp only [b1] at hlk6
 cases rok with
 | false=>
  refine zC (by kernel_rfl) (by kernel_rfl) ?_
  repeat (go_big_quiet_step (first | (go_at_call 113; exact zaa (hisid.out _))))
  refine wpQuiet_nil ?_;rintro _ ⟨u,rfl⟩;have hend:=(h8.out.up u.up).below;clear g6 g7 a0 a1 a2 a3 a4 a5 t7 p0 p1 hlk6;go_wp2;go_ret;exact ⟨zf (by rw [hd.out]; first | done | rfl | simp),hend,fun h=>by rw [hd.out] at h; first | (cases h; done) | simp at h⟩
 | true=>
 cases b2 : zcn seq with
 | false=>
  rw [b2] at hd hisid;refine zC (by kernel_rfl) (by kernel_rfl) ?_
  repeat (go_big_quiet_step (first | (go_at_call 113; exact zaa (hisid.out _))))
  refine wpQuiet_nil ?_;rintro _ ⟨u,rfl⟩;have hend:=(h8.out.up u.up).below;clear g6 g7 a0 a1 a2 a3 a4 a5 t7 p0 p1 hlk6;go_wp2;go_ret;exact ⟨zf (by rw [hd.out]; first | done | rfl | simp),hend,fun h=>by rw [hd.out] at h; first | (cases h; done) | simp at h⟩
 | true=>
 rw [b2] at hd hisid;obtain ⟨kl7,hkl7⟩:=znq (rro,seq) (hrf.out rfl) hsq;have hlk7:=fun (u : Ups W8)=>(h8.out.up u.up).m7.look zkd Tryz.underlying192 (zwu _) (rro,seq) hkl7;simp only [zgR,zbU] at hlk7
 cases b3 : zcg (rro,seq) L.places with
 | true=>
  rw [b3] at hd;simp only [b3] at hlk7;refine zC (by kernel_rfl) (by kernel_rfl) ?_
  repeat (go_big_quiet_step (first | (go_at_call 113; exact zaa (hisid.out _))))
  refine wpQuiet_nil ?_;rintro _ ⟨u,rfl⟩;have hend:=(h8.out.up u.up).below;clear g6 g7 a0 a1 a2 a3 a4 a5 t7 p0 p1 hlk6;clear hlk7;go_wp2;go_ret;exact ⟨zf (by rw [hd.out]; first | done | rfl | simp),hend,fun h=>by rw [hd.out] at h; first | (cases h; done) | simp at h⟩
 | false=>
 rw [b3] at hd;simp only [b3] at hlk7;refine zC (by kernel_rfl) (by kernel_rfl) ?_
 repeat (go_big_quiet_step (first | (go_at_call 113; exact zaa (hisid.out _))))
 refine wpQuiet_nil ?_;rintro _ ⟨u,rfl⟩;have hyes : Hid (r = true):=Hd (by rw [hd.out]; rfl);have h9:=Hd (h8.out.up u.up);have kT9:=Hd (kT8.out.ups u);have kA9:=Hd (kA8.out.ups u);have kP9:=Hd (kP.out.ups u);clear g6 g7 a0 a1 a2 a3 a4 a5 t7 p0 p1 hlk6 hlk7 h8 kT8 kA8 kP hisid b1 b2 b3 hd;generalize u.wld = W9 at *;go_wp2;have g5:=fun (u : Ups W9)=>(h9.out.up u.up).blk.cell 5;have t0:=fun (u : Ups W9)=>(kT9.out.ups u).cell 0;simp at g5 t0;refine zL 6 (by kernel_rfl) (by kernel_rfl) ?_;simp only [tS,tZ,dS,dZ]
 repeat (go_big_quiet_step (fail))
 refine wpQuiet_nil ?_;rintro _ ⟨u3,rfl⟩;have ha:=h9.out.up u3.up;have kA10:=Hd (kA9.out.ups u3);have kP10:=Hd (kP9.out.ups u3);obtain ⟨Wa,hput,hmv,hgr⟩:=ha.m5.put zdf Tryz.underlying190 (by unfold maxLen; omega) zbm pid true (zaJ pid hpi);simp only [zY] at hput;have hA1:=Hd (ha.put5 hmv hgr);have kA11 : Hid (Blk Wa GA 206 _):=Hd ((hgr.block _ kA10.out.lt (by intro e; injection e with e; have:=hGN.out; omega)).trans kA10.out);have kP11 : Hid (Blk Wa GP 202 _):=Hd ((hgr.block _ kP10.out.lt (by intro e; injection e with e; have:=hGP.out; omega)).trans kP10.out);clear g5 t0 ha hmv hgr h9 kT9 kA9 kP9 kA10 kP10;generalize u3.wld = Wq at *;go_wp2;clear hput;have g6:=fun (u : Ups Wa)=>(hA1.out.up u.up).blk.cell 6;have a0:=fun (u : Ups Wa)=>(Blk.ups kA11.out u).cell 0;have a1:=fun (u : Ups Wa)=>(Blk.ups kA11.out u).cell 1;have a2:=fun (u : Ups Wa)=>(Blk.ups kA11.out u).cell 2;have a3:=fun (u : Ups Wa)=>(Blk.ups kA11.out u).cell 3;have a4:=fun (u : Ups Wa)=>(Blk.ups kA11.out u).cell 4;have a5:=fun (u : Ups Wa)=>(Blk.ups kA11.out u).cell 5;simp at g6 a0 a1 a2 a3 a4 a5;refine zL 5 (by kernel_rfl) (by kernel_rfl) ?_;simp only [tS,tZ,dS,dZ]
 repeat (go_big_quiet_step (fail))
 refine wpQuiet_nil ?_;rintro _ ⟨u4,rfl⟩;have ha:=hA1.out.up u4.up;have kP12:=Hd (Blk.ups kP11.out u4);obtain ⟨Wb,hput,hmv,hgr⟩:=ha.m6.put zrO Tryz.underlying191 (by unfold maxLen; omega) zqe ⟨town,street,number,letter,unit,box⟩ true hkl6;simp only [zdX] at hput;have hA2:=Hd (ha.put6 hmv hgr);have kP13 : Hid (Blk Wb GP 202 _):=Hd ((hgr.block _ kP12.out.lt (by intro e; injection e with e; have:=hGP.out; omega)).trans kP12.out);clear g6 a0 a1 a2 a3 a4 a5 ha hmv hgr hA1 kA11 kP11 kP12;generalize u4.wld = Wr at *;go_wp2;clear hput;have g7:=fun (u : Ups Wb)=>(hA2.out.up u.up).blk.cell 7;have p0:=fun (u : Ups Wb)=>(Blk.ups kP13.out u).cell 0;have p1:=fun (u : Ups Wb)=>(Blk.ups kP13.out u).cell 1;simp at g7 p0 p1;refine zL 5 (by kernel_rfl) (by kernel_rfl) ?_;simp only [tS,tZ,dS,dZ]
 repeat (go_big_quiet_step (fail))
 refine wpQuiet_nil ?_;rintro _ ⟨u5,rfl⟩;have ha:=hA2.out.up u5.up;obtain ⟨Wc,hput,hmv,hgr⟩:=ha.m7.put zkd Tryz.underlying192 (by unfold maxLen; omega) zhz (rro,seq) true hkl7;simp only [zbU] at hput;have hA3:=Hd (ha.put7 hmv hgr);clear g7 p0 p1 ha hmv hgr hA2 kP13;generalize u5.wld = Ws at *;go_wp2;go_ret;exact ⟨zf (by rw [hyes.out]),hA3.out.below,fun _=>hA3.out⟩
end
section
open Go.RowKit Go.Maps
def zcF : List zJ -> List zJ -> Bool
 | _,[]=>true
 | seen,t :: l=>if zgk seen t then zcF (t :: seen) l else false
def zbP (towns : List zJ) : List (Int × Int) -> List zdb -> List zz -> Option (List (Int × Int))
 | S,_,[]=>some S
 | S,L,s :: l=>match zep towns S L s with
  | none=>none
  | some L'=>zbP towns ((s.id,s.town) :: S) L' l
def zbK (towns : List zJ) (S : List (Int × Int)) : List zj -> List zj -> Bool
 | _,[]=>true
 | rs,g :: l=>if zdE towns S rs g then zbK towns S (rs ++ [g]) l else false
def zbC (towns : List zJ) (S : List (Int × Int)) (rs : List zj) : List Int -> List zgp -> List (Int × Int) -> List zh -> Bool
 | _,_,_,[]=>true
 | P,A,Q,p :: l=>if zeN towns S rs P A Q p then zbC towns S rs (p.id :: P) (zaC p :: A) (((zgg rs p).1.route,p.seq) :: Q) l else false
def zzr (f : zw) : Bool:=decide (f.towns.length <= 200) && (decide (f.streets.length <= 500) && (decide (f.ranges.length <= 1000) && decide (f.points.length <= 2000)))
def zae (f : zw) : Bool:=
 zzr f && (zcF [] f.towns && match zbP f.towns.reverse [] [] f.streets with
  | none=>false
  | some S=>zbK f.towns.reverse S [] f.ranges && zbC f.towns.reverse S f.ranges [] [] [] f.points)
structure zks (f : zw) : Prop where
 t : ∀ t ∈ f.towns,zam t.id /\ (0 <= t.country /\ t.country <= 255) /\ t.name.size <= 1000 /\ t.region.size <= 1000 /\ ∀ x ∈ t.codes,x.size <= 1000000
 s : ∀ s ∈ f.streets,zam s.id /\ zam s.town /\ s.pre.size <= 1000 /\ s.name.size <= 1000 /\ s.suffix.size <= 1000 /\ ∀ x ∈ s.others,x.size <= 1000000
 r : ∀ g ∈ f.ranges,zam g.town /\ zam g.street /\ zam g.route
 p : ∀ p ∈ f.points,zam p.id /\ zam p.town /\ zam p.street /\ zam p.number /\ zam p.box /\ zam p.seq /\ p.letter.size <= 1000000 /\ p.unit.size <= 1000000
theorem zqO {towns : List zJ} {S : List (Int × Int)} {rs : List zj} {g : zj} (h : zdE towns S rs g = true) : 0 <= g.low /\ g.high <= 1000000:=by
 unfold zdE at h;simp at h;omega
theorem zpd {α : Type} (l : List α) (d : α) (k : Nat) (h : k < l.length) : (l.take (k + 1)).reverse = l.getD k d :: (l.take k).reverse:=by
 rw [zaO l d k h,List.reverse_append]; rfl
variable {w0 w : World} {N n : Nat} {L : zhr} {M4 : List ((Int × Int) × Value)} {rs : List zj}
theorem zxE (vt vs vr vp : Value) (f : zw) (w : World) (hf : zaf w vt vs vr vp f) (hfine : zks f) :
  Calls Tryz.prog 48 #[.agg #[vt,vs,vr,vp]] w fun e w'=>∃ i c : Int,e = .returned (.tuple #[.int .i64 i,.int .i64 c]) /\ (c == 0) = zae f /\ Below w.heap.size w w':=by
 have hb1 : Below w.heap.size w (w.alloc (.cells #[vt,vs,vr,vp] 31)):=(Below.refl _ _).alloc (lQ _) _;have kF:=Hd (Blk.new w 31 #[vt,vs,vr,vp])
 have hd : Hid (zae f = (zzr f && (zcF [] f.towns && match zbP f.towns.reverse [] [] f.streets with
  | none=>false
  | some S=>zbK f.towns.reverse S [] f.ranges && zbC f.towns.reverse S f.ranges [] [] [] f.points))):=Hd rfl
 have hfew : Hid (zzr f = (decide (f.towns.length <= 200) && (decide (f.streets.length <= 500) && (decide (f.ranges.length <= 1000) && decide (f.points.length <= 2000))))):=Hd rfl;have hfn:=Hd hfine;clear hfine;obtain ⟨⟨tA,tC,rfl,htn,htc,htI⟩,⟨sA,sC,rfl,hsn,hsc,hsI⟩,⟨rA,rC,rfl,hrn,hrc,hrI⟩,⟨pA,pC,rfl,hpn,hpc,hpI⟩⟩:=hf;have htI':=Hd htI;have hsI':=Hd hsI;have hrI':=Hd hrI;have hpI':=Hd hpI;clear htI hsI hrI hpI;unfold maxLen at htc hsc hrc hpc;have hb1':=Hd hb1;clear hb1;go_enter Tryz.func48,Tryz.ntmps48
 cases hfb : zzr f with
 | false=>
  have hno : Hid (zae f = false):=Hd (by rw [hd.out,hfb]; rfl);rw [hfb] at hfew;by_cases c1 : f.towns.length <= 200
  rotate_left
  ·have d1 : decide ((200 : Int) < (f.towns.length : Int)) = true:=decide_eq_true (by omega)
   clear c1 hfb;go_wp2
   go_ret2
   exact ⟨0,5,rfl,by rw [hno.out]; rfl,hb1'.out⟩
  have d1 : decide ((200 : Int) < (f.towns.length : Int)) = false:=decide_eq_false (by omega);by_cases c2 : f.streets.length <= 500
  rotate_left
  ·have d2 : decide ((500 : Int) < (f.streets.length : Int)) = true:=decide_eq_true (by omega)
   clear c1 c2 hfb;go_wp2
   go_ret2
   exact ⟨0,5,rfl,by rw [hno.out]; rfl,hb1'.out⟩
  have d2 : decide ((500 : Int) < (f.streets.length : Int)) = false:=decide_eq_false (by omega);by_cases c3 : f.ranges.length <= 1000
  rotate_left
  ·have d3 : decide ((1000 : Int) < (f.ranges.length : Int)) = true:=decide_eq_true (by omega)
   clear c1 c2 c3 hfb;go_wp2
   go_ret2
   exact ⟨0,5,rfl,by rw [hno.out]; rfl,hb1'.out⟩
  have d3 : decide ((1000 : Int) < (f.ranges.length : Int)) = false:=decide_eq_false (by omega)
  have c4 : ¬ f.points.length <= 2000:=fun h=>by
   have:=hfew.out;rw [decide_eq_true c1,decide_eq_true c2,decide_eq_true c3,decide_eq_true h] at this;cases this
  have d4 : decide ((2000 : Int) < (f.points.length : Int)) = true:=decide_eq_true (by omega);clear c1 c2 c3 c4 hfb;go_wp2
  go_ret2
  exact ⟨0,5,rfl,by rw [hno.out]; rfl,hb1'.out⟩
 | true=>
 rw [hfb] at hfew hd;have hfe:=hfew.out;simp only [Bool.true_eq,Bool.and_eq_true,decide_eq_true_eq] at hfe;obtain ⟨c1,c2,c3,c4⟩:=hfe;have d1 : decide ((200 : Int) < (f.towns.length : Int)) = false:=decide_eq_false (by omega);have d2 : decide ((500 : Int) < (f.streets.length : Int)) = false:=decide_eq_false (by omega);have d3 : decide ((1000 : Int) < (f.ranges.length : Int)) = false:=decide_eq_false (by omega);have d4 : decide ((2000 : Int) < (f.points.length : Int)) = false:=decide_eq_false (by omega);have hlen:=Hd (show f.towns.length <= 200 /\ f.streets.length <= 500 /\ f.ranges.length <= 1000 /\ f.points.length <= 2000 from ⟨c1,c2,c3,c4⟩);clear hfb hfew c1 c2 c3 c4;simp only [Bool.true_and] at hd;have hnew:=Hd znz;go_wp2_with fail;refine (hnew.out _).mono ?_;rintro e w2 ⟨rfl,hcs⟩;have hcs0:=Hd hcs;clear hcs hnew d1 d2 d3 d4;generalize w.alloc _ = W at *;generalize hNq : W.heap.size = N at *;have hFN : Hid (w.heap.size < N):=Hd (by rw [<- hNq]; exact kF.out.lt);have kF2:=Hd (kF.out.below hcs0.out.below kF.out.lt);have y0:=kF2.out.cell 0;have lF:=kF2.out.lt;simp at y0;have hNq':=Hd hNq;clear hNq;go_wp2
 go_loopw [39] (fun iv wr=>∃ (k : Nat) (tv : List zsk),k <= f.towns.length /\ iv = .int .i64 k /\ Hid (CS W N (2 * k) wr ⟨tv,tv.map fun p=>(p.1.country,p.1.text),[],[],[],[],[]⟩ [] []) /\ Hid (tv.map (·.1) = (f.towns.take k).reverse) /\ Hid (zcF [] f.towns = zcF (tv.map (·.1)) (f.towns.drop k))) (fun iv _=>f.towns.length - (intOf iv).toNat)
 case atStart=>exact ⟨0,[],by omega,rfl,hcs0,Hd rfl,Hd rfl⟩
 case round=>
  obtain ⟨k,tv,hk,rfl,hcs,htv,hto⟩:=hrel;rename World=>wr;have n0 : (0 : Int) <= (k : Int):=by omega
  by_cases hlt : k < f.towns.length
  ·have n1 : (k : Int) < (f.towns.length : Int):=by omega
   obtain ⟨b,off,rfl,hb,hi⟩:=htI'.out (by omega);obtain ⟨cv,hx⟩:=hi k hlt;have hbW : b < W.heap.size:=Nat.lt_of_lt_of_le hb hb1'.out.size;have hxW:=hx.stays (zo.of hb1'.out) hb;have hxr:=hxW.stays (zo.of hcs.out.below) hbW;have hfx:=hfn.out.t (f.towns.getD k zJ.zero) (by rw [zD _ _ _ hlt]; exact List.getElem_mem hlt);have hdr:=Hd (zaI f.towns zJ.zero k hlt);have htk:=Hd (zpd f.towns zJ.zero k hlt);generalize f.towns.getD k zJ.zero = x at *;obtain ⟨cA,cn,cc,hcv⟩:=hxW.tx.form;have hba : Below wr.heap.size wr (wr.alloc (.cells (zcB x cv) 79)):=(Below.refl _ _).alloc (lQ _) _;have hck:=Hd (ztJ (hcs.out.up hba) x cv hfx.1 hfx.2.1 hxW.tx ⟨hfx.2.2.1,hfx.2.2.2.1,hfx.2.2.2.2⟩ (by have:=hlen.out; omega) rfl);have z0:=hxr.c0;have z1:=hxr.c1;have z2:=hxr.c2;have z3:=hxr.c3;have z4:=hxr.c4;subst hcv;have htxx:=Hd hxW.tx;clear hi hx hxW hxr hfx hba;have hstp : Hid (zcF [] f.towns = if zgk (tv.map (·.1)) x then zcF (x :: tv.map (·.1)) (f.towns.drop (k + 1)) else false):=Hd (by rw [hto.out,hdr.out]; rfl);simp only at hck;unfold zcB at hck;go_wp2_with fail;refine hck.out.mono ?_;rintro e w3 ⟨rfl,hbw3,hnx⟩
   cases b1 : zgk (tv.map (·.1)) x with
   | false=>
    have hno : Hid (zae f = false):=Hd (by rw [hd.out,hstp.out,b1]; rfl);clear b1 hnx;go_wp2
    go_ret2
    exact ⟨k,120,rfl,by rw [hno.out]; rfl,hb1'.out.trans (hbw3.mono hb1'.out.size)⟩
   | true=>
    have hst2 : Hid (zcF [] f.towns = zcF (x :: tv.map (·.1)) (f.towns.drop (k + 1))):=Hd (by rw [hstp.out,b1]; rfl);have hcn:=Hd (hnx b1);clear b1 hnx;go_wp2;go_roundw
    case rel=>exact ⟨k + 1,(x,.slice cA cn cc) :: tv,by omega,by go_num,Hd (hcn.out.mono (by omega)),Hd (by rw [List.map_cons,htv.out,htk.out]),hst2⟩
    case measure=>simp [intOf]; omega
  ·obtain rfl : k = f.towns.length:=by omega
   have hT : Hid (tv.map (·.1) = f.towns.reverse):=Hd (by rw [htv.out,List.take_length])
   have hd2 : Hid (zae f = match zbP f.towns.reverse [] [] f.streets with
    | none=>false
    | some S=>zbK f.towns.reverse S [] f.ranges && zbC f.towns.reverse S f.ranges [] [] [] f.points):=Hd (by rw [hd.out,hto.out,List.drop_length]; rfl)
   have hcs1:=Hd (hcs.out.mono (n':=400) (by have:=hlen.out; omega));clear hd hto htv hcs hcs0 kF2 y0 lF;have kF3:=Hd (kF.out.below hcs1.out.below kF.out.lt);have y1:=kF3.out.cell 1;have lF:=kF3.out.lt;simp at y1;go_wp2;rename World=>wa
   go_loopw [53] (fun iv wr=>∃ (k : Nat) (S : List (Int × Int)) (Lb : List zdb),k <= f.streets.length /\ iv = .int .i64 k /\ Hid (CS W N (400 + 10 * k) wr ⟨tv,tv.map fun p=>(p.1.country,p.1.text),S,Lb,[],[],[]⟩ [] []) /\ Hid (zbP f.towns.reverse [] [] f.streets = zbP f.towns.reverse S Lb (f.streets.drop k))) (fun iv _=>f.streets.length - (intOf iv).toNat)
   case atStart=>exact ⟨0,[],[],by omega,rfl,hcs1,Hd rfl⟩
   case round=>
    obtain ⟨k,S,Lb,hk,rfl,hcs,hto⟩:=hrel;rename World=>wr;have n0 : (0 : Int) <= (k : Int):=by omega
    clear kF3 y1 lF hcs1;by_cases hlt : k < f.streets.length
    ·have n1 : (k : Int) < (f.streets.length : Int):=by omega
     obtain ⟨b,off,rfl,hb,hi⟩:=hsI'.out (by omega);obtain ⟨cv,hx⟩:=hi k hlt;have hbW : b < W.heap.size:=Nat.lt_of_lt_of_le hb hb1'.out.size;have hxW:=hx.stays (zo.of hb1'.out) hb;have hxr:=hxW.stays (zo.of hcs.out.below) hbW;have hfx:=hfn.out.s (f.streets.getD k zz.zero) (by rw [zD _ _ _ hlt]; exact List.getElem_mem hlt);have hdr:=Hd (zaI f.streets zz.zero k hlt);generalize f.streets.getD k zz.zero = x at *;obtain ⟨cA,cn,cc,hcv⟩:=hxW.tx.form;have hba : Below wr.heap.size wr (wr.alloc (.cells (zcj x cv) 83)):=(Below.refl _ _).alloc (lQ _) _;have hck:=Hd (zpo (hcs.out.up hba) x cv hfx.1 hfx.2.1 hxW.tx ⟨hfx.2.2.1,hfx.2.2.2.1,hfx.2.2.2.2.1,hfx.2.2.2.2.2⟩ (by have:=hlen.out; omega));simp only [hT.out] at hck;have z0:=hxr.c0;have z1:=hxr.c1;have z2:=hxr.c2;have z3:=hxr.c3;have z4:=hxr.c4;have z5:=hxr.c5;subst hcv;clear hi hx hxW hxr hfx hba
     have hstp : Hid (zbP f.towns.reverse [] [] f.streets = match zep f.towns.reverse S Lb x with
      | none=>none
      | some L'=>zbP f.towns.reverse ((x.id,x.town) :: S) L' (f.streets.drop (k + 1))):=Hd (by rw [hto.out,hdr.out]; rfl)
     unfold zcj at hck;go_wp2_with fail;refine hck.out.mono ?_;rintro e w3 ⟨rfl,hbw3,hnx⟩
     cases b1 : zep f.towns.reverse S Lb x with
     | none=>
      have hno : Hid (zae f = false):=Hd (by rw [hd2.out,hstp.out,b1]);clear b1 hnx;go_wp2
      go_ret2
      exact ⟨k,121,rfl,by rw [hno.out]; rfl,hb1'.out.trans (hbw3.mono hb1'.out.size)⟩
     | some L'=>
      have hst2 : Hid (zbP f.towns.reverse [] [] f.streets = zbP f.towns.reverse ((x.id,x.town) :: S) L' (f.streets.drop (k + 1))):=Hd (by rw [hstp.out,b1]);have hcn:=Hd (hnx L' b1);clear b1 hnx;go_wp2;go_roundw
      case rel=>exact ⟨k + 1,_,L',by omega,by go_num,Hd (hcn.out.mono (by omega)),hst2⟩
      case measure=>simp [intOf]; omega
    ·obtain rfl : k = f.streets.length:=by omega
     have hd3 : Hid (zae f = (zbK f.towns.reverse S [] f.ranges && zbC f.towns.reverse S f.ranges [] [] [] f.points)):=Hd (by rw [hd2.out,hto.out,List.drop_length]; rfl);have hcs2:=Hd (hcs.out.mono (n':=6000) (by have:=hlen.out; omega));clear hd2 hto hcs;have kF4:=Hd (kF.out.below hcs2.out.below kF.out.lt);have y2:=kF4.out.cell 2;have lF:=kF4.out.lt;simp at y2;go_wp2;rename World=>wb
     go_loopw [67] (fun iv wr=>∃ (k : Nat) (M4 : List ((Int × Int) × Value)),k <= f.ranges.length /\ iv = .int .i64 k /\ Hid (CS W N (6000 + k) wr ⟨tv,tv.map fun p=>(p.1.country,p.1.text),S,Lb,[],[],[]⟩ M4 (f.ranges.take k)) /\ Hid (zbK f.towns.reverse S [] f.ranges = zbK f.towns.reverse S (f.ranges.take k) (f.ranges.drop k)) /\ Hid (∀ x ∈ f.ranges.take k,0 <= x.low /\ x.high <= 1000000)) (fun iv _=>f.ranges.length - (intOf iv).toNat)
     case atStart=>exact ⟨0,[],by omega,rfl,hcs2,Hd rfl,Hd fun _ h=>by cases h⟩
     case round=>
      obtain ⟨k,M4,hk,rfl,hcs,hto,hlo⟩:=hrel;rename World=>wr;have n0 : (0 : Int) <= (k : Int):=by omega
      clear kF4 y2 lF hcs2;by_cases hlt : k < f.ranges.length
      ·have n1 : (k : Int) < (f.ranges.length : Int):=by omega
       obtain ⟨b,off,rfl,hb,hi⟩:=hrI'.out (by omega);have hx:=hi k hlt;have hbW : b < W.heap.size:=Nat.lt_of_lt_of_le hb hb1'.out.size;have hxr:=(hx.stays (zo.of hb1'.out) hb).stays (zo.of hcs.out.below) hbW;have hfx:=hfn.out.r (f.ranges.getD k zj.zero) (by rw [zD _ _ _ hlt]; exact List.getElem_mem hlt);have hdr:=Hd (zaI f.ranges zj.zero k hlt);have htk:=Hd (zaO f.ranges zj.zero k hlt);generalize f.ranges.getD k zj.zero = x at *;have hba : Below wr.heap.size wr (wr.alloc (.cells (zaV x) 72)):=(Below.refl _ _).alloc (lQ _) _;have hck:=Hd (ztE (hcs.out.up hba) x hfx.1 hfx.2.1 (by have:=hlen.out; omega) hlo.out (by rw [List.length_take]; have:=hlen.out; omega));simp only [hT.out] at hck;have z0:=hxr.c0;have z1:=hxr.c1;have z2:=hxr.c2;have z3:=hxr.c3;have z4:=hxr.c4;have z5:=hxr.c5;have z6:=hxr.c6;clear hi hx hxr hfx hba;have hstp : Hid (zbK f.towns.reverse S [] f.ranges = if zdE f.towns.reverse S (f.ranges.take k) x then zbK f.towns.reverse S (f.ranges.take k ++ [x]) (f.ranges.drop (k + 1)) else false):=Hd (by rw [hto.out,hdr.out]; rfl);unfold zaV at hck;go_wp2_with fail;refine hck.out.mono ?_;rintro e w3 ⟨rfl,hbw3,hnx⟩
       cases b1 : zdE f.towns.reverse S (f.ranges.take k) x with
       | false=>
        have hno : Hid (zae f = false):=Hd (by rw [hd3.out,hstp.out,b1]; rfl);clear b1 hnx;go_wp2
        go_ret2
        exact ⟨k,122,rfl,by rw [hno.out]; rfl,hb1'.out.trans (hbw3.mono hb1'.out.size)⟩
       | true=>
        have hst2 : Hid (zbK f.towns.reverse S [] f.ranges = zbK f.towns.reverse S (f.ranges.take (k + 1)) (f.ranges.drop (k + 1))):=Hd (by rw [hstp.out,b1,htk.out]; rfl);obtain ⟨M4',hcn⟩:=hnx b1;have hcn':=Hd hcn
        have hlo2:=Hd (show ∀ y ∈ f.ranges.take (k + 1),0 <= y.low /\ y.high <= 1000000 from fun y hy=>by
         rw [htk.out] at hy;rcases List.mem_append.1 hy with hy | hy
         ·exact hlo.out y hy
         ·rw [mS.1 hy]; exact zqO b1)
        clear b1 hnx hcn;go_wp2;go_roundw
        case rel=>exact ⟨k + 1,M4',by omega,by go_num,Hd (by rw [htk.out]; exact hcn'.out.mono (by omega)),hst2,hlo2⟩
        case measure=>simp [intOf]; omega
      ·obtain rfl : k = f.ranges.length:=by omega
       have hd4 : Hid (zae f = zbC f.towns.reverse S f.ranges [] [] [] f.points):=Hd (by rw [hd3.out,hto.out,List.drop_length]; rfl);have hcs3 : Hid (CS W N 8000 wr ⟨tv,tv.map fun p=>(p.1.country,p.1.text),S,Lb,[],[],[]⟩ M4 f.ranges):=Hd (by have:=hcs.out.mono (n':=8000) (by have:=hlen.out; omega); rwa [List.take_length] at this);clear hd3 hto hcs hlo;have kF5:=Hd (kF.out.below hcs3.out.below kF.out.lt);have y3:=kF5.out.cell 3;have lF:=kF5.out.lt;simp at y3;go_wp2;rename World=>wc
       go_loopw [81] (fun iv wr=>∃ (k : Nat) (P : List Int) (A : List zgp) (Q : List (Int × Int)),k <= f.points.length /\ iv = .int .i64 k /\ Hid (CS W N (8000 + 3 * k) wr ⟨tv,tv.map fun p=>(p.1.country,p.1.text),S,Lb,P,A,Q⟩ M4 f.ranges) /\ Hid (zbC f.towns.reverse S f.ranges [] [] [] f.points = zbC f.towns.reverse S f.ranges P A Q (f.points.drop k))) (fun iv _=>f.points.length - (intOf iv).toNat)
       case atStart=>exact ⟨0,[],[],[],by omega,rfl,hcs3,Hd rfl⟩
       case round=>
        obtain ⟨k,P,A,Q,hk,rfl,hcs,hto⟩:=hrel;rename World=>wr;have n0 : (0 : Int) <= (k : Int):=by omega
        clear kF5 y3 lF hcs3;by_cases hlt : k < f.points.length
        ·have n1 : (k : Int) < (f.points.length : Int):=by omega
         obtain ⟨b,off,rfl,hb,hi⟩:=hpI'.out (by omega);have hx:=hi k hlt;have hbW : b < W.heap.size:=Nat.lt_of_lt_of_le hb hb1'.out.size;have hxr:=(hx.stays (zo.of hb1'.out) hb).stays (zo.of hcs.out.below) hbW;have hfx:=hfn.out.p (f.points.getD k zh.zero) (by rw [zD _ _ _ hlt]; exact List.getElem_mem hlt);have hdr:=Hd (zaI f.points zh.zero k hlt);generalize f.points.getD k zh.zero = x at *;have hba : Below wr.heap.size wr (wr.alloc (.cells (zaz x) 33)):=(Below.refl _ _).alloc (lQ _) _;have hck:=Hd (zqN (hcs.out.up hba) x hfx.1 hfx.2.1 hfx.2.2.1 hfx.2.2.2.1 hfx.2.2.2.2.1 hfx.2.2.2.2.2.1 (fun g hg=>(hfn.out.r g hg).2.2) ⟨hfx.2.2.2.2.2.2.1,hfx.2.2.2.2.2.2.2⟩ (by have:=hlen.out; omega));simp only [hT.out] at hck;have z0:=hxr.c0;have z1:=hxr.c1;have z2:=hxr.c2;have z3:=hxr.c3;have z4:=hxr.c4;have z5:=hxr.c5;have z6:=hxr.c6;have z7:=hxr.c7;clear hi hx hxr hfx hba;have hstp : Hid (zbC f.towns.reverse S f.ranges [] [] [] f.points = if zeN f.towns.reverse S f.ranges P A Q x then zbC f.towns.reverse S f.ranges (x.id :: P) (zaC x :: A) (((zgg f.ranges x).1.route,x.seq) :: Q) (f.points.drop (k + 1)) else false):=Hd (by rw [hto.out,hdr.out]; rfl);unfold zaz at hck;go_wp2_with fail;refine hck.out.mono ?_;rintro e w3 ⟨rfl,hbw3,hnx⟩
         cases b1 : zeN f.towns.reverse S f.ranges P A Q x with
         | false=>
          have hno : Hid (zae f = false):=Hd (by rw [hd4.out,hstp.out,b1]; rfl);clear b1 hnx;go_wp2
          go_ret2
          exact ⟨k,123,rfl,by rw [hno.out]; rfl,hb1'.out.trans (hbw3.mono hb1'.out.size)⟩
         | true=>
          have hst2 : Hid (zbC f.towns.reverse S f.ranges [] [] [] f.points = zbC f.towns.reverse S f.ranges (x.id :: P) (zaC x :: A) (((zgg f.ranges x).1.route,x.seq) :: Q) (f.points.drop (k + 1))):=Hd (by rw [hstp.out,b1]; rfl);have hcn:=Hd (hnx b1);clear b1 hnx;go_wp2;go_roundw
          case rel=>exact ⟨k + 1,_,_,_,by omega,by go_num,Hd (hcn.out.mono (by omega)),hst2⟩
          case measure=>simp [intOf]; omega
        ·obtain rfl : k = f.points.length:=by omega
         have hyes : Hid (zae f = true):=Hd (by rw [hd4.out,hto.out,List.drop_length]; rfl);have hend:=hb1'.out.trans (hcs.out.below.mono hb1'.out.size);go_wp2
         go_ret2
         exact ⟨0,0,rfl,by rw [hyes.out]; rfl,hend⟩
end
end Go.Proofs.YtggimnndflkjkaaGreatDoor
