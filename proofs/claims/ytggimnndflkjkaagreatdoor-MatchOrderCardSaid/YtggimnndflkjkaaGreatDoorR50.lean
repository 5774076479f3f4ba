/- MatchOrder: All tells just the points that Point tells, in order of their costs and then of their IDs; each cost is the sum over notes whose kinds increase; the street and the town of each point are among the places, at no greater cost. Conditions: none of its own; any sketch, byte and mask, in any world that the row's statement admits. -/
import Derived.Test.YtggimnndflkjkaaGreatDoorR01
import Derived.Test.YtggimnndflkjkaaGreatDoorR21
import Derived.Test.YtggimnndflkjkaaGreatDoorR47
import Derived.Test.YtggimnndflkjkaaGreatDoorR49
import Derived.Deep.Upon
import Derived.Test.YtggimnndflkjkaaGreatDoorTie
import Derived.Test.YtggimnndflkjkaaGreatDoorCards
import Derived.SevenTiedAt
set_option linter.all false
set_option maxRecDepth 100000
set_option maxHeartbeats 0
namespace Go.Proofs.YtggimnndflkjkaaGreatDoor
section
open Go.ChangeShapes Go.WideShapes Go.ChangeAt Go.RowKit
theorem zBG (os : Os) (started : os.Started) (H : Type) (enc : TypeId × Value -> H) :
  ReturnsInHanded {} Tryz.checked os 7 .any (fun w args=>(Rows.matchOrderSpec.pre enc Tryz.prog Tryz.f7 Rows.matchOrderRow.domain false w args /\ laidMetH Tryz.prog Rows.matchOrderRow.laid w) /\ sizedMet enc Tryz.prog Tryz.f7 (OpenSpec.ofChange Rows.matchOrderSpec) false w args)
   (Rows.matchOrderSpec.post enc Tryz.prog Tryz.f7 false true false false):=by
 refine returnsInHanded_of_change_and (C:=Tryz.checked) (X:=fun w _=>laidMetH Tryz.prog Rows.matchOrderRow.laid w) (fun _ _ _ hh h=>h.of_heap hh) zkj started (by kernel_rfl) Tryz.func7
  (ChangeSpec.witness_shaped (enc:=enc) (C:=Tryz.checked) (os:=os) (X:=fun w _=>laidMetH Tryz.prog Rows.matchOrderRow.laid w) false (World.laidAll Tryz.prog os Rows.matchOrderRow.laid) #[.agg #[.int .u8 0,.int .u8 0,.slice none 0 0,.slice none 0 0],.int .u8 0,.int .u16 0] 8 (World.laidAll_os _ _ _)
   (World.shaped_of_ZipB (by kernel_rfl) (by kernel_rfl)) (by kernel_rfl) (by kernel_rfl) (by kernel_rfl)
   (by rw [MakeChecks.laidMetH_plain _ _ _ (by kernel_rfl)]; exact laidMet_laidAll _ (by kernel_rfl) (by kernel_rfl))) ?_
 intro W base args ds gs before hval0 hW hc _ hL _;have hval : ∀ (j : Nat) t v,Tryz.f7.params[j]? = some t -> args[j]? = some v -> Value.okWide Tryz.prog W .any base t v:=hval0;have hW':=hW;obtain ⟨p,q,hA0,hV,rfl,hfz,hnd⟩:=hW;have hA : DataW.TrodAll enc Tryz.prog W 0 (fun _=>true) true Tryz.f7.params.toList args.toList ds p:=hA0;rw [Tryz.params7] at hA hval;obtain ⟨v0,vs0,d0,ds0,p0,q0,hargs,rfl,rfl,h0,r0⟩:=trodAll_cons hA;obtain ⟨v1,vs1,d1,ds1,p1,q1,rfl,rfl,rfl,h1,r1⟩:=trodAll_cons r0;obtain ⟨v2,vs2,d2,ds2,p2,q2,rfl,rfl,rfl,h2,r2⟩:=trodAll_cons r1;obtain ⟨rfl,rfl,rfl⟩:=trodAll_nil r2;obtain rfl : args = #[v0,v1,v2]:=by cases args; simp_all
 obtain ⟨rfl,rfl⟩:=trodVars_none hV;obtain ⟨cs,rfl,hcsz⟩:=okWide_struct Tryz.underlying25 (hval 0 25 v0 rfl rfl);have k0:=h0;have lt0 : ∀ x ∈ p0,x.block < W.heap.size:=by obtain ⟨m,hm⟩:=k0; exact DataW.trod_lt m _ _ _ hm
 obtain ⟨s,vc,vp,hcs,hs⟩ : ∃ (s : zi) (vc vp : Value),cs = #[.int .u8 (s.towns : Int),.int .u8 (s.streets : Int),vc,vp] /\ zbS W vc vp s:=by
  obtain ⟨fuel,hf⟩:=h0;obtain ⟨s,vc,vp,h1,h2⟩:=zit hf;refine ⟨s,vc,vp,?_,h2⟩;cases cs
  simp [Value.cells] at h1;rw [h1]
 subst hcs;obtain ⟨a1,rfl,rfl,rfl,w1⟩:=open_int Tryz.underlying5 (hval 1 5 v1 rfl rfl) h1;obtain ⟨a2,rfl,rfl,rfl,w2⟩:=open_int Tryz.underlying55 (hval 2 55 v2 rfl rfl) h2;clear hA0 hval0;refine (zCa s vc vp a1 a2 W hs w1 w2 (zfV hL)).mono fun e W' ⟨he,bel⟩=>?_;subst he;exact ⟨_,rfl,_,_,_,[],_,[],hW',trodAll_mk1 (shut_bool Tryz.underlying4 _),(trodAll_cons_mk (Below.trod zke (by kernel_rfl) (of_decide_eq_true (by kernel_rfl)) k0 bel lt0) (trodAll_cons_mk (shut_int Tryz.underlying5 w1) (trodAll_cons_mk (shut_int Tryz.underlying55 w2) trodAll_mk0))),rfl,bel.frame _,fun h=>by cases h⟩
theorem zBJ : Rows.MatchOrderSaid:=
 OpenClaim.holds_of_wide 7 Tryz.f7 rfl rfl rfl rfl rfl rfl rfl ⟨rfl,rfl,rfl,rfl,rfl⟩ rfl rfl rfl rfl rfl (by kernel_rfl) Tryz.func7 (by kernel_rfl)
  (of_decide_eq_true (by kernel_rfl)) (by unfold Func.isWrapper; first | (rw [if_pos (by decide +kernel)]; kernel_rfl) | (rw [if_neg (by decide +kernel)]; exact ⟨rfl,rfl⟩))
  (fun os started H enc _=>zBG os started H enc)
theorem matchOrder_card_holds : Rows.MatchOrderCardSaid:=
 Claim7.holds_tied_plain_at .later [] [.data,.data,.data,.data,.pinned] true (true,"723741566ef359c4faf7b021fa85f20e4c6214f58269e36c64195f5ff5da4cec") false zBJ (fun _ h=>by cases h) (by kernel_rfl) (fun _ h=>by cases h) matchOrder_row_tie rfl ⟨rfl,rfl⟩ (by kernel_rfl) rfl
  (fun f fn hf hfn=>by
   obtain rfl : f = 7:=Option.some.inj ((show Tryz.prog.funcNamed "letterbag/letterbaglaw14.MatchOrder" = some 7 by kernel_rfl).symm.trans hf) |>.symm;obtain rfl : fn = Tryz.f7:=(Option.some.inj (Tryz.func7.symm.trans hfn)).symm
   exact ⟨by kernel_rfl,fun j t ht=>by
    rw [Tryz.params7] at ht;have hm : t ∈ [25,5,55]:=by simpa using Array.mem_of_getElem? ht
    have hall : ([25,5,55].all fun u=>!Tryz.prog.wantsStandIn u) = true:=by kernel_rfl
    exact (show Tryz.prog.wantsStandIn t = false by simpa using List.all_eq_true.1 hall t hm)⟩)
  (by kernel_rfl)
#print axioms matchOrder_card_holds
end
end Go.Proofs.YtggimnndflkjkaaGreatDoor
