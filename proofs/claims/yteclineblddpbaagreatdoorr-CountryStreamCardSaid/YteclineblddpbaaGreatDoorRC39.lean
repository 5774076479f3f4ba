import Derived.Test.YteclineblddpbaaGreatDoorRC01
import Derived.Test.YteclineblddpbaaGreatDoorRC16
import Derived.Test.YteclineblddpbaaGreatDoorRRows
import Derived.ProofKit
import Derived.OpenShut
import Derived.LaidMore
import Derived.Lay
import Derived.Stop.Joined
import Derived.Stop.LaidErr
import Derived.Deep.Slices
import Derived.ChangeSlices
import Derived.Below
import Derived.HandedShaped
import Derived.Shelf.Vars
import Derived.SizedLaws
set_option linter.all false
set_option maxRecDepth 100000
set_option maxHeartbeats 0
namespace Go.Proofs.YteclineblddpbaaGreatDoorR
section
open Go.ChangeShapes Go.WideShapes Go.ChangeAt Go.RowKit Go.Deep
theorem own_knob : ownKnob Tryz.prog.godebug = none:=by kernel_rfl
theorem laid_out : laidOutB Tryz.prog = true:=by kernel_rfl
theorem kc3 : Tryz.prog.cellsOf 3 = 1:=by kernel_rfl
theorem kc5 : Tryz.prog.cellsOf 5 = 1:=by kernel_rfl
theorem kc9 : Tryz.prog.cellsOf 9 = 1:=by kernel_rfl
theorem kc37 : Tryz.prog.cellsOf 37 = 1:=by kernel_rfl
theorem kc39 : Tryz.prog.cellsOf 39 = 4:=by kernel_rfl
theorem max_of_shaped {W : World} (h : W.ShapedOpen Tryz.prog) : MaxL W:=
 cell_of_shapedOpen_int (P:=Tryz.prog) (g:=0) (t:=3) (zero:=#[.int .i64 0]) h (of_decide_eq_true (by kernel_rfl)) (by kernel_rfl) rfl (by kernel_rfl) (by kernel_rfl) Tryz.underlying3
theorem returnsInHanded_of_change_both {H : Type} {enc : TypeId × Value -> H} {a : Assume} {C : Checked} {os : Os} {f : FuncId} {fn : Func} {s : ChangeSpec} {conds : List PathCond} {apart fresh handsOn again : Bool} {X : World -> Array Value -> Prop}
  (hX : ∀ (w w' : World) (args : Array Value),w.heap = w'.heap -> X w args -> X w' args)
  (own : ownKnob C.prog.godebug = none) (started : os.Started) (noInit : C.prog.inits.idxOf? f = none) (hfn : C.prog.funcs[f]? = some fn)
  (witness : ∃ (w : World) (tape : Tape) (i : Input),w.os = os /\ (w.forCall tape i).Shaped C.prog /\ i.vars = [] /\ Input.okWide C.prog (w.forCall tape i) .any w.heap.size f i /\
   ((s.pre enc C.prog fn conds apart (w.forCall tape i).memory i.args /\ X (w.forCall tape i).memory i.args) /\ sizedMet enc C.prog fn (OpenSpec.ofChange s) apart (w.forCall tape i).memory i.args) /\ a.holds C.prog (lone (Frame.enter C.prog f i.args .normal) [] (w.forCall tape i)))
  (contract : ∀ (W : World) (base : Nat) (args : Array Value) (ds gs : List (DataW H)) (before : List MemPlace),
   (∀ (j : Nat) t v,fn.params[j]? = some t -> args[j]? = some v -> Value.okWide C.prog W .any base t v) ->
   DataW.Whole enc C.prog fn.params.toList s.vars apart W args.toList ds gs before ->
   (DataW.weightsEach C.prog (fn.params.toList ++ s.plain.varTypes C.prog) (ds ++ gs)).all (· <= reachBytes) = true -> X W args ->
   W.ShapedOpen C.prog ->
   Calls C.prog f args W fun e W'=>∃ v,e = .returned v /\ s.post enc C.prog fn apart fresh handsOn again W args v W') :
  ReturnsInHanded a C os f .any (fun w args=>(s.pre enc C.prog fn conds apart w args /\ X w args) /\ sizedMet enc C.prog fn (OpenSpec.ofChange s) apart w args) (s.post enc C.prog fn apart fresh handsOn again):=by
 refine returnsInHanded_of_calls own started noInit witness ?_
 intro w tape i _ hsh _ hok hpre hholds
 obtain ⟨_,_,_,fn',hfn',_,_,_,_,hval⟩:=hok
 have e : fn' = fn:=Option.some.inj (hfn'.symm.trans hfn)
 subst e
 obtain ⟨⟨⟨ds,gs,before,hw,hc⟩,hx⟩,hz⟩:=hpre
 have hw':=DataW.Whole.of_heap (w':=w.forCall tape i) (by rfl) hw
 refine (contract (w.forCall tape i) w.heap.size i.args ds gs before hval hw' (hz.weights hw) (hX _ _ _ (by rfl) hx) hsh).mono fun e W' ⟨v,he,hp⟩=>?_
 subst he
 exact ChangeSpec.post_blind hp
theorem weightsAll_mem {H : Type} {P : Program} {e : TypeId} : ∀ {l : List (DataW H)} {d : DataW H},d ∈ l -> ∀ m ∈ d.weights P e,m ∈ DataW.weightsAll P e l
 | x :: l,d,h,m,hm=>by
  simp only [DataW.weightsAll,List.mem_append]
  rcases List.mem_cons.1 h with rfl | h
  ·exact .inl hm
  ·exact .inr (weightsAll_mem h m hm)
section
variable {H : Type} {enc : TypeId × Value -> H} {w : World} {base : Nat} {spare : Nat -> Bool} {held : Bool}
theorem len_4 {α : Type} : ∀ {l : List α},l.length = 4 -> ∃ a b c d,l = [a,b,c,d]
 | [a,b,c,d],_=>⟨a,b,c,d,rfl⟩
theorem trod_four {t : TypeId} {f0 f1 f2 f3 : Field} {fuel : Nat} {cs : List Value} {x : DataW H × List MemPlace} (ht : Tryz.prog.underlying t = some (.struct #[f0,f1,f2,f3])) (o0 : f0.offset = 0) (o1 : f1.offset = 1) (o2 : f2.offset = 2) (o3 : f3.offset = 3)
  (c0 : Tryz.prog.cellsOf f0.type = 1) (c1 : Tryz.prog.cellsOf f1.type = 1) (c2 : Tryz.prog.cellsOf f2.type = 1) (c3 : Tryz.prog.cellsOf f3.type = 1) (hc : Tryz.prog.cellsOf t = 4) (h : DataW.trod enc Tryz.prog w base spare held fuel t cs = some x) :
  ∃ v0 v1 v2 v3 y0 y1 y2 y3 n,cs = [v0,v1,v2,v3] /\ x.1 = .agg [y0.1,y1.1,y2.1,y3.1] /\ DataW.trod enc Tryz.prog w base spare held n f0.type [v0] = some y0 /\ DataW.trod enc Tryz.prog w base spare held n f1.type [v1] = some y1 /\ DataW.trod enc Tryz.prog w base spare held n f2.type [v2] = some y2 /\ DataW.trod enc Tryz.prog w base spare held n f3.type [v3] = some y3:=by
 obtain ⟨xs,n,_,hx,hl,hxl,hf⟩:=DataW.trod_struct ht h
 rw [hc] at hl
 obtain ⟨v0,v1,v2,v3,rfl⟩:=len_4 hl
 obtain ⟨y0,y1,y2,y3,rfl⟩:=len_4 (show xs.length = 4 from hxl)
 have h0:=hf 0 f0 rfl
 have h1:=hf 1 f1 rfl
 have h2:=hf 2 f2 rfl
 have h3:=hf 3 f3 rfl
 rw [o0,c0] at h0
 rw [o1,c1] at h1
 rw [o2,c2] at h2
 rw [o3,c3] at h3
 exact ⟨v0,v1,v2,v3,y0,y1,y2,y3,n,rfl,by rw [hx]; rfl,h0,h1,h2,h3⟩
theorem pick_list {α : Type} (zero : α) (n : Nat) (Q : Nat -> α -> Prop) (h : ∀ i,i < n -> ∃ a,Q i a) : ∃ l : List α,l.length = n /\ ∀ i,i < n -> Q i (l.getD i zero):=by
 refine ⟨(List.range n).map fun i=>if hi : i < n then Classical.choose (h i hi) else zero,by simp,fun i hi=>?_⟩
 rw [List.getD_eq_getElem?_getD,List.getElem?_map,List.getElem?_range hi]
 simp only [Option.map_some,Option.getD_some,dif_pos hi]
 exact Classical.choose_spec (h i hi)
theorem read_rows (R : Nat) {α : Type} {t e : TypeId} {k : Nat} (zero : α) (Q : Nat -> Nat -> α -> Prop) (ht : Tryz.prog.underlying t = some (.slice e)) (hc : Tryz.prog.cellsOf e = k) (hk : 0 < k)
  (hel : ∀ (b o n : Nat) (cs : List Value) (d : DataW H × List MemPlace),(∀ j,j < k -> w.cell? ⟨b,o + j,none⟩ = cs[j]?) -> DataW.trod enc Tryz.prog w base spare held n e cs = some d -> (∀ m ∈ d.1.weights Tryz.prog e,m <= R) -> ∃ a,Q b o a)
  {fuel : Nat} {v : Value} {x : DataW H × List MemPlace} (h : DataW.trod enc Tryz.prog w base spare held fuel t [v] = some x) (hw : ∀ m ∈ x.1.weights Tryz.prog t,m <= R) :
  ∃ l : List α,Sl w v l.length (fun b off i=>Q b (off + i * k) (l.getD i zero)) /\ l.length * Tryz.prog.bytesOf e <= R:=by
 rcases open_slice ht h with ⟨hv,_⟩ | ⟨a,len,cap,m,n,D,Pl,hv,_,hl,hm,hmm,hx,hi⟩
 ·obtain rfl : v = .slice none 0 0:=by simpa using hv
  exact ⟨[],⟨none,0,rfl,lQ _,Nat.zero_le _,fun h=>absurd h (by simp)⟩,(by rw [List.length_nil,Nat.zero_mul]; exact Nat.zero_le _)⟩
 ·obtain rfl : v = .slice (some a) len cap:=by simpa using hv
  have hlm : len <= m:=by rw [hmm]; split <;> omega
  have hwl : len * Tryz.prog.bytesOf e <= R:=by
   have:=hw ((len + (m - len)) * Tryz.prog.bytesOf e) (by rw [hx]; simp [DataW.weights,ht])
   refine Nat.le_trans ?_ this
   exact Nat.mul_le_mul_right _ (by omega)
  have hwi : ∀ i,i < len -> ∀ q ∈ (D i).weights Tryz.prog e,q <= R:=fun i hil q hq=>hw q (by
   rw [hx]
   simp only [DataW.weights,ht,List.mem_cons,List.mem_append]
   exact .inr (.inl (weightsAll_mem (List.mem_map.2 ⟨i,List.mem_range.2 hil,rfl⟩) q hq)))
  rcases Nat.eq_zero_or_pos len with h0 | h0
  ·subst h0
   exact ⟨[],⟨some a,cap,rfl,Nat.zero_le _,hm,fun h=>absurd h (by simp)⟩,(by rw [List.length_nil,Nat.zero_mul]; exact Nat.zero_le _)⟩
  ·obtain ⟨b,off,rfl,hb⟩ : ∃ b off,a = ⟨b,off,none⟩ /\ b < w.heap.size:=by
    obtain ⟨cs',hcs,_⟩:=hi 0 (by omega)
    obtain ⟨_,hcl,hat⟩:=World.cells?_some hcs
    have h1:=hat 0 (by rw [hc]; exact hk)
    have hl0 : 0 < cs'.length:=by rw [hcl,hc]; exact hk
    rw [List.getElem?_eq_getElem hl0] at h1
    have h2 : w.cell? a = some cs'[0]:=by simpa [Addr.add] using h1
    obtain ⟨b,off,spot⟩:=a
    have hspot : spot = none:=by simpa using World.cell?_spot h2
    subst hspot
    exact ⟨b,off,rfl,World.block_lt_of_cell? w _ h2⟩
   obtain ⟨l,hll,hlq⟩:=pick_list zero len (fun i a=>Q b (off + i * k) a) fun i hil=>by
    obtain ⟨cs',hcs,ht'⟩:=hi i (by omega)
    obtain ⟨_,hcl,hat⟩:=World.cells?_some hcs
    refine hel b (off + i * k) n cs' (D i,Pl i) (fun j hj=>?_) ht' (hwi i hil)
    have h1:=hat j (by rw [hc]; exact hj)
    rw [hc,Go.WideShapes.add_plain,Go.WideShapes.add_plain] at h1
    exact h1
   refine ⟨l,⟨some ⟨b,off,none⟩,cap,by rw [hll],by omega,hm,fun _=>⟨b,off,rfl,hb,fun i hil=>hlq i (by omega)⟩⟩,(by rw [hll]; exact hwl)⟩
end
end
end Go.Proofs.YteclineblddpbaaGreatDoorR
