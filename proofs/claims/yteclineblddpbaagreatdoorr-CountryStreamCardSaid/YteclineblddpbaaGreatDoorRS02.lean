/- CountryStream: without its breaks a stream is the tokens, and there is a break exactly between two tokens of different lines. Conditions: none of its own; any tokens, in any world that the statement of the row admits. -/
import Derived.Test.YteclineblddpbaaGreatDoorRC01
import Derived.Test.YteclineblddpbaaGreatDoorRC39
import Derived.Test.YteclineblddpbaaGreatDoorRS01
import Derived.Test.YteclineblddpbaaGreatDoorRTie
import Derived.Test.YteclineblddpbaaGreatDoorRCards
import Derived.SevenTiedAt
set_option linter.all false
set_option maxRecDepth 100000
set_option maxHeartbeats 0
namespace Go.Proofs.YteclineblddpbaaGreatDoorR
section
open Go.ChangeShapes Go.WideShapes Go.ChangeAt Go.RowKit
theorem toks_in {H : Type} {enc : TypeId × Value -> H} {w : World} {base : Nat} {spare : Nat -> Bool} {held : Bool} {fuel : Nat} {v : Value} {x : DataW H × List MemPlace} (h : DataW.trod enc Tryz.prog w base spare held fuel 23 [v] = some x) (hw : ∀ m ∈ x.1.weights Tryz.prog 23,m <= reachBytes) : ∃ l,IsToks w v l:=by
 obtain ⟨l,h1,_⟩:=read_rows reachBytes PTok.zero (fun b o t=>IsTok w b o t) Tryz.underlying23 kc39 (by omega) (fun b o n cs d hcell ht hwd=>by
  obtain ⟨v0,v1,v2,v3,y0,y1,y2,y3,n1,rfl,-,t0,t1,t2,t3⟩:=trod_four Tryz.underlying39 rfl rfl rfl rfl kc9 kc3 kc3 kc37 kc39 ht
  obtain ⟨s,e0,_⟩:=DataW.trod_string Tryz.underlying9 t0
  obtain ⟨a,e1,_,_⟩:=DataW.trod_int Tryz.underlying3 t1
  obtain ⟨b',e2,_,_⟩:=DataW.trod_int Tryz.underlying3 t2
  obtain ⟨c,e3,_,_⟩:=DataW.trod_int Tryz.underlying37 t3
  obtain rfl : v0 = .string s:=by simpa using e0
  obtain rfl : v1 = .int .i64 a:=by simpa using e1
  obtain rfl : v2 = .int .i64 b':=by simpa using e2
  obtain rfl : v3 = .int .u16 c:=by simpa using e3
  exact ⟨⟨s,a,b',c⟩,by simpa using hcell 0 (by omega),by simpa using hcell 1 (by omega),by simpa using hcell 2 (by omega),by simpa using hcell 3 (by omega)⟩) h hw
 exact ⟨l,h1⟩
theorem countryStream_lifted (os : Os) (started : os.Started) (H : Type) (enc : TypeId × Value -> H) :
  ReturnsInHanded {} Tryz.checked os 5 .any (fun w args=>(Rows.countryStreamSpec.pre enc Tryz.prog Tryz.f5 Rows.countryStreamRow.domain false w args /\ laidMetH Tryz.prog Rows.countryStreamRow.laid w) /\ sizedMet enc Tryz.prog Tryz.f5 (OpenSpec.ofChange Rows.countryStreamSpec) false w args)
   (Rows.countryStreamSpec.post enc Tryz.prog Tryz.f5 false true false false):=by
 refine returnsInHanded_of_change_both (C:=Tryz.checked) (X:=fun w _=>laidMetH Tryz.prog Rows.countryStreamRow.laid w) (fun _ _ _ hh h=>h.of_heap hh) own_knob started (by kernel_rfl) Tryz.func5
  (ChangeSpec.witness_shaped (enc:=enc) (C:=Tryz.checked) (os:=os) (X:=fun w _=>laidMetH Tryz.prog Rows.countryStreamRow.laid w) false (World.laidAll Tryz.prog os Rows.countryStreamRow.laid) #[.slice none 0 0] 8 (World.laidAll_os _ _ _)
   (World.shaped_of_ZipB (by kernel_rfl) (by kernel_rfl)) (by kernel_rfl) (by kernel_rfl) (by kernel_rfl)
   (by rw [MakeChecks.laidMetH_plain _ _ _ (by kernel_rfl)]; exact laidMet_laidAll _ (by kernel_rfl) (by kernel_rfl))) ?_
 intro W base args ds gs before hval0 hW hR _ hsh
 have hval : ∀ (j : Nat) t v,Tryz.f5.params[j]? = some t -> args[j]? = some v -> Value.okWide Tryz.prog W .any base t v:=hval0
 have hW':=hW
 obtain ⟨p,q,hA0,hV,rfl,hfz,hnd⟩:=hW
 have hA : DataW.TrodAll enc Tryz.prog W 0 (fun _=>true) true Tryz.f5.params.toList args.toList ds p:=hA0
 rw [Tryz.params5] at hA hval
 obtain ⟨v0,d0,rfl,rfl,h0⟩:=trodAll_one hA
 obtain ⟨rfl,rfl⟩:=trodVars_none hV
 obtain ⟨a0,len0,cap0,rfl⟩:=okWide_slice Tryz.underlying23 (hval 0 23 v0 rfl rfl)
 have k0:=h0
 have lt0 : ∀ x ∈ p,x.block < W.heap.size:=by obtain ⟨m,hm⟩:=k0; exact DataW.trod_lt m _ _ _ hm
 have hw0 : ∀ m ∈ d0.weights Tryz.prog 23,m <= reachBytes:=fun m hm=>by
  have h1 : (DataW.weightsEach Tryz.prog [23] [d0]).all (· <= reachBytes) = true:=hR
  have h2:=List.all_eq_true.1 h1 m (by simp [DataW.weightsEach]; exact hm)
  simpa using h2
 obtain ⟨l,hl⟩ : ∃ l,IsToks W (.slice a0 len0 cap0) l:=by
  obtain ⟨fuel,hf⟩:=h0
  exact toks_in (x:=(d0,p)) hf hw0
 clear hA0 hval0
 have hml:=max_of_shaped hsh
 refine (stream5 _ l W hl hml (by obtain ⟨m,hm⟩:=hml; exact Nat.lt_of_le_of_lt (Nat.zero_le _) (cell_lt hm))).mono fun e W' ⟨he,bel⟩=>?_
 subst he
 exact ⟨_,rfl,_,_,_,[],_,[],hW',trodAll_mk1 (shut_bool Tryz.underlying4 _),trodAll_mk1 (Below.trod laid_out (by kernel_rfl) (of_decide_eq_true (by kernel_rfl)) k0 bel lt0),rfl,bel.frame _,fun h=>by cases h⟩
theorem countryStream_holds : Rows.CountryStreamSaid:=
 OpenClaim.holds_of_wide 5 Tryz.f5 rfl rfl rfl rfl rfl rfl rfl ⟨rfl,rfl,rfl,rfl,rfl⟩ rfl rfl rfl rfl rfl (by kernel_rfl) Tryz.func5 (by kernel_rfl)
  (of_decide_eq_true (by kernel_rfl)) (by unfold Func.isWrapper; first | (rw [if_pos (by decide +kernel)]; kernel_rfl) | (rw [if_neg (by decide +kernel)]; exact ⟨rfl,rfl⟩))
  (fun os started H enc _=>countryStream_lifted os started H enc)
theorem countryStream_card_holds : Rows.CountryStreamCardSaid:=
 Claim7.holds_tied_plain_at .later [] [.data,.pinned] true (true,"5bfe68bd36186fe86f2274916b9b47a9e23bb70b27d4d008fbecc72e132986ca") false countryStream_holds (fun _ h=>by cases h) (by kernel_rfl) (fun _ h=>by cases h) countryStream_row_tie rfl ⟨rfl,rfl⟩ (by kernel_rfl) rfl
  (fun f fn hf hfn=>by
   obtain rfl : f = 5:=Option.some.inj ((show Tryz.prog.funcNamed "letterbag/letterbaglaw10.CountryStream" = some 5 by kernel_rfl).symm.trans hf) |>.symm
   obtain rfl : fn = Tryz.f5:=(Option.some.inj (Tryz.func5.symm.trans hfn)).symm
   exact ⟨by kernel_rfl,fun j t ht=>by
    rw [Tryz.params5] at ht
    have hm : t ∈ [23]:=by simpa using Array.mem_of_getElem? ht
    have hall : ([23].all fun u=>!Tryz.prog.wantsStandIn u) = true:=by kernel_rfl
    exact (show Tryz.prog.wantsStandIn t = false by simpa using List.all_eq_true.1 hall t hm)⟩)
  (by kernel_rfl)
#print axioms countryStream_card_holds
end
end Go.Proofs.YteclineblddpbaaGreatDoorR
