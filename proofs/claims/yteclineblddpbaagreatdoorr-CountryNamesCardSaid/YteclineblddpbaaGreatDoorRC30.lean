import Derived.Test.YteclineblddpbaaGreatDoorRC01
import Derived.Test.YteclineblddpbaaGreatDoorRC29
set_option linter.all false
set_option maxRecDepth 100000
set_option maxHeartbeats 0
namespace Go.Proofs.YteclineblddpbaaGreatDoorR
section
open Go Go.RowKit Go.Maps
def FlagsAt (w : World) (b : Nat) (f : Nat -> Bool) : Prop:=∃ cs : Array Value,Blk w b 190 cs /\ cs.size = 64 /\ ∀ s,s < 64 -> cs[s]? = some (.bool (f s))
theorem FlagsAt.set_ {w : World} {b : Nat} {f : Nat -> Bool} (h : FlagsAt w b f) (s : Nat) (v : Bool) : FlagsAt (w.setCell ⟨b,s,none⟩ (.bool v)) b fun i=>if i = s then v else f i:=by
 obtain ⟨cs,h1,h2,h3⟩:=h
 refine ⟨_,h1.set_ s _,by simpa using h2,fun i hi=>?_⟩
 show (cs.setIfInBounds s (Value.bool v))[i]? = some (Value.bool (if i = s then v else f i))
 by_cases e : i = s
 ·subst e
  rw [if_pos rfl,Array.getElem?_setIfInBounds_self_of_lt (by omega)]
 ·rw [if_neg e,Array.getElem?_setIfInBounds_ne (Ne.symm e)]
  exact h3 i hi
theorem FlagsAt.same {w w' : World} {b : Nat} {f : Nat -> Bool} (h : FlagsAt w b f) (hb : w'.heap[b]? = w.heap[b]?) : FlagsAt w' b f:=by
 obtain ⟨cs,h1,h2,h3⟩:=h
 exact ⟨cs,hb.trans h1,h2,h3⟩
theorem FlagsAt.cell {w : World} {b : Nat} {f : Nat -> Bool} (h : FlagsAt w b f) {s : Nat} (hs : s < 64) : w.cell? ⟨b,s,none⟩ = some (.bool (f s)):=by
 obtain ⟨cs,h1,_,h3⟩:=h
 exact (h1.cell s).trans (h3 s hs)
theorem FlagsAt.frozen {w : World} {b : Nat} {f : Nat -> Bool} (h : FlagsAt w b f) (s : Nat) : w.frozen? ⟨b,s,none⟩ = false:=by
 obtain ⟨cs,h1,_,_⟩:=h
 exact h1.frozen s
theorem FlagsAt.lt {w : World} {b : Nat} {f : Nat -> Bool} (h : FlagsAt w b f) : b < w.heap.size:=by
 obtain ⟨cs,h1,_,_⟩:=h
 exact h1.lt
theorem FlagsAt.congr {w : World} {b : Nat} {f f' : Nat -> Bool} (h : FlagsAt w b f) (e : ∀ s,s < 64 -> f s = f' s) : FlagsAt w b f':=by
 obtain ⟨cs,h1,h2,h3⟩:=h
 exact ⟨cs,h1,h2,fun s hs=>by rw [<- e s hs]; exact h3 s hs⟩
theorem setCell_size (w : World) (p : Addr) (u : Value) : (w.setCell p u).heap.size = w.heap.size:=by simp [World.setCell]
theorem CKp.set_ {O : Nat -> Prop} (w : World) (p : Addr) (u : Value) (hp : O p.block) : CKp O w (w.setCell p u):=
 ⟨by rw [setCell_size]; exact lQ _,fun b o v hb hc=>by
  rw [World.cell?_of_block (Below.heap_setCell w p u b (fun e=>hb (by rw [e]; exact hp)))]
  exact hc⟩
theorem KeepM.set1 {M : Nat -> Prop} (w : World) (p : Addr) (u : Value) (hp : M p.block) : KeepM M w (w.setCell p u):=
 ⟨by rw [setCell_size]; exact lQ _,fun k _ hk=>Below.heap_setCell w p u k (fun e=>hk (by rw [e]; exact hp)),rfl,rfl,rfl⟩
theorem CKp.of_keepM_self {M : Nat -> Prop} {A B : World} (h : KeepM M A B) : CKp M A B:=
 ⟨h.size,fun b o v hb hc=>by rw [World.cell?_of_block (h.same b (cell_lt hc) hb)]; exact hc⟩
abbrev derivesF (ON DN SG DV : Nat) : Value:=.func (.func 120) #[] #[.pointer (some ⟨ON,0,none⟩),.pointer (some ⟨DN,0,none⟩),.pointer (some ⟨SG,0,none⟩),.pointer (some ⟨DV,0,none⟩)]
def FlagsO (ON DN b : Nat) : Prop:=b = ON \/ b = DN
structure CycM (w : World) (ON DN SG DV : Nat) (ls : Nat -> List Nat) (on dn : Nat -> Bool) : Prop where
 hon : FlagsAt w ON on
 hdn : FlagsAt w DN dn
 hsg : ∀ s,s < 64 -> ∃ v,w.cell? ⟨SG,s,none⟩ = some v /\ NatsO .i64 (FlagsO ON DN) w v (ls s)
 hdv : w.cell? ⟨DV,0,none⟩ = some (derivesF ON DN SG DV)
 ne : ON ≠ DN /\ SG ≠ ON /\ SG ≠ DN /\ DV ≠ ON /\ DV ≠ DN
section
variable {w w' : World} {ON DN SG DV : Nat} {ls : Nat -> List Nat} {on dn on' dn' : Nat -> Bool}
theorem CycM.keep (h : CycM w ON DN SG DV ls on dn) (hk : CKp (FlagsO ON DN) w w') (h1 : FlagsAt w' ON on') (h2 : FlagsAt w' DN dn') : CycM w' ON DN SG DV ls on' dn':=
 ⟨h1,h2,fun s hs=>let ⟨v,k1,k2⟩:=h.hsg s hs; ⟨v,hk.cell _ _ _ (fun e=>e.elim h.ne.2.1 h.ne.2.2.1) k1,k2.keep hk fun b h=>.inl h⟩,hk.cell _ _ _ (fun e=>e.elim h.ne.2.2.2.1 h.ne.2.2.2.2) h.hdv,h.ne⟩
theorem CycM.setOn (h : CycM w ON DN SG DV ls on dn) (s : Nat) (v : Bool) : CycM (w.setCell ⟨ON,s,none⟩ (.bool v)) ON DN SG DV ls (fun i=>if i = s then v else on i) dn:=
 h.keep (CKp.set_ w _ _ (.inl rfl)) (h.hon.set_ s v) (h.hdn.same (Below.heap_setCell w _ _ _ (Ne.symm h.ne.1)))
theorem CycM.setDn (h : CycM w ON DN SG DV ls on dn) (s : Nat) (v : Bool) : CycM (w.setCell ⟨DN,s,none⟩ (.bool v)) ON DN SG DV ls on (fun i=>if i = s then v else dn i):=
 h.keep (CKp.set_ w _ _ (.inr rfl)) (h.hon.same (Below.heap_setCell w _ _ _ h.ne.1)) (h.hdn.set_ s v)
theorem CycM.congr (h : CycM w ON DN SG DV ls on dn) (e : ∀ s,s < 64 -> on s = on' s) : CycM w ON DN SG DV ls on' dn:={ h with hon:=h.hon.congr e }
end
def CycR (ON DN SG DV : Nat) (ls : Nat -> List Nat) (on : Nat -> Bool) (w w' : World) : Prop:=∃ dn',CycM w' ON DN SG DV ls on dn' /\ KeepM (FlagsO ON DN) w w'
theorem derives_any {ON DN SG DV : Nat} {ls : Nat -> List Nat} {rk : Nat -> Nat} (hls : ∀ s,s < 64 -> (ls s).length <= 200 /\ ∀ t ∈ ls s,t < 64 /\ rk t < rk s) : ∀ (D s : Nat) (on dn : Nat -> Bool) (w : World),rk s < D -> s < 64 -> CycM w ON DN SG DV ls on dn -> (∀ t,t < 64 -> rk t <= rk s -> on t = false) ->
  Calls Tryz.prog 120 #[.int .i64 (s : Int),.pointer (some ⟨ON,0,none⟩),.pointer (some ⟨DN,0,none⟩),.pointer (some ⟨SG,0,none⟩),.pointer (some ⟨DV,0,none⟩)] w fun e w'=>e = .returned (.bool false) /\ CycR ON DN SG DV ls on w w':=by
 intro D
 induction D with
 | zero=>intro s _ _ _ h _ _ _; exact absurd h (Nat.not_lt_zero _)
 | succ D ih=>
  intro s on dn w hD hs hm hoff
  replace ih:=Hd ih
  have c0:=hm.hon.cell hs
  have c1:=hm.hdn.cell hs
  have hoffs:=hoff s hs (lQ _)
  rw [hoffs] at c0
  have n0 : (0 : Int) <= (s : Int):=by omega
  have n1 : (s : Int) < 64:=by omega
  obtain ⟨hl1,hl2⟩:=hls s hs
  replace hl2:=Hd hl2
  replace hoff:=Hd hoff
  replace hoffs:=Hd hoffs
  replace hm:=Hd hm
  obtain ⟨dv,hdv⟩ : ∃ dv,dv = dn s:=⟨_,rfl⟩
  rw [<- hdv] at c1
  replace hdv:=Hd hdv
  have f0:=hm.out.hon.frozen s
  have lON:=hm.out.hon.lt
  go_enter Tryz.func120,Tryz.ntmps120
  cases dv with
  | true=>
   go_wp2_with fail
   go_ret
   exact ⟨rfl,dn,hm.out,KeepM.refl _ _⟩
  | false=>
   obtain ⟨w1,hw1⟩ : ∃ w1,w1 = w.setCell ⟨ON,s,none⟩ (.bool true):=⟨_,rfl⟩
   have hm1 : Hid (CycM w1 ON DN SG DV ls (fun i=>if i = s then true else on i) dn):=Hd (by rw [hw1]; exact hm.out.setOn s true)
   have hk1 : Hid (KeepM (FlagsO ON DN) w w1):=Hd (by rw [hw1]; exact KeepM.set1 w _ _ (.inl rfl))
   go_upto_region 4 with fail
   rw [<- hw1]
   clear hw1 c0 c1 f0 lON
   obtain ⟨v,hv,hvn⟩:=hm1.out.hsg s hs
   obtain ⟨A,c,rfl,hn,hcm,hA⟩:=hvn
   unfold maxLen at hcm
   replace hA:=Hd hA
   go_wp2_with fail
   clear hv
   go_loopw [26] (fun iv wr=>∃ (k : Nat) (dn1 : Nat -> Bool),k <= (ls s).length /\ iv = .int .i64 k /\ Hid (CycM wr ON DN SG DV ls (fun i=>if i = s then true else on i) dn1) /\ Hid (KeepM (FlagsO ON DN) w1 wr)) (fun iv _=>(ls s).length - (intOf iv).toNat)
   case atStart=>exact ⟨0,dn,by omega,rfl,hm1,Hd (KeepM.refl _ _)⟩
   case round=>
    obtain ⟨k,dn1,hk,rfl,hmr,hkr⟩:=hrel
    rename World=>wr
    clear hm1
    have m0 : (0 : Int) <= (k : Int):=by omega
    by_cases hlt : k < (ls s).length
    ·have m1 : (k : Int) < ((ls s).length : Int):=by omega
     obtain ⟨b0,off0,rfl,hb0,hb0O,hi0⟩:=hA.out (by omega)
     have d0:=(CKp.of_keepM_self hkr.out).cell _ _ _ hb0O (hi0 k hlt)
     have hmem:=hl2.out ((ls s).getD k 0) (by rw [getD_at _ _ _ hlt]; exact List.getElem_mem hlt)
     generalize (ls s).getD k 0 = t at d0 hmem
     have hdv1:=hmr.out.hdv
     have hcall:=Hd (ih.out t _ dn1 wr (by omega) hmem.1 hmr.out (fun u hu hr=>by
      have h1 : u ≠ s:=fun e=>by subst e; omega
      show (if u = s then true else on u) = false
      rw [if_neg h1]
      exact hoff.out u hu (by omega)))
     clear hi0
     go_wp2_with fail
     refine hcall.out.mono ?_
     rintro e w3 ⟨rfl,dn3,hm3,hk3⟩
     clear hcall d0 hdv1
     have hm3':=Hd hm3
     have hk3':=Hd (hkr.out.trans hk3)
     clear hm3 hk3 hmr hkr
     go_wp2_with fail
     go_roundw
     case rel=>exact ⟨k + 1,dn3,by omega,by go_num,hm3',hk3'⟩
     case measure=>simp [intOf]; omega
    ·obtain rfl : k = (ls s).length:=by omega
     have hm2 : Hid (CycM (wr.setCell ⟨ON,s,none⟩ (.bool false)) ON DN SG DV ls (fun i=>if i = s then false else if i = s then true else on i) dn1):=Hd (hmr.out.setOn s false)
     have hm3:=Hd (hm2.out.setDn s true)
     have hk3 : Hid (KeepM (FlagsO ON DN) w ((wr.setCell ⟨ON,s,none⟩ (.bool false)).setCell ⟨DN,s,none⟩ (.bool true))):=Hd (hk1.out.trans (hkr.out.trans ((KeepM.set1 wr _ _ (.inl rfl)).trans (KeepM.set1 _ _ _ (.inr rfl)))))
     have hm4 : Hid (CycM ((wr.setCell ⟨ON,s,none⟩ (.bool false)).setCell ⟨DN,s,none⟩ (.bool true)) ON DN SG DV ls on (fun i=>if i = s then true else dn1 i)):=Hd (hm3.out.congr fun i _=>by
      show (if i = s then false else if i = s then true else on i) = on i
      by_cases e : i = s
      ·rw [if_pos e,e,hoffs.out]
      ·rw [if_neg e,if_neg e])
     have e0:=hmr.out.hon.cell hs
     have e1:=hm2.out.hdn.cell hs
     have f0:=hmr.out.hon.frozen s
     have f1:=hm2.out.hdn.frozen s
     have l0:=hmr.out.hon.lt
     have l1:=hm2.out.hdn.lt
     clear hmr hkr
     go_wp2_with fail
     go_ret
     exact ⟨rfl,_,hm4.out,hk3.out⟩
end
section
open Go Go.RowKit Go.Maps
def singTo (g : List PRule) (s : Nat) : Nat -> List Nat
 | 0=>[]
 | k + 1=>if (ruleOf g k).length = 1 /\ ((ruleOf g k).getD 0 PItem.zero).cls = 0 /\ s = (g.getD k PRule.zero).left then singTo g s k ++ [((ruleOf g k).getD 0 PItem.zero).sym] else singTo g s k
theorem singTo_len (g : List PRule) (s : Nat) : ∀ k,(singTo g s k).length <= k
 | 0=>lQ _
 | k + 1=>by
  have:=singTo_len g s k
  rw [singTo]
  split
  ·simp; omega
  ·omega
theorem singTo_mem {g : List PRule} {rk : Nat -> Nat} {D s t : Nat} (ok : GramOK g rk D) : ∀ k,k <= g.length -> t ∈ singTo g s k -> t < 64 /\ rk t < rk s
 | 0,_,h=>by cases h
 | k + 1,hk,h=>by
  rw [singTo] at h
  split at h
  ·rename_i hc
   rcases List.mem_append.1 h with h | h
   ·exact singTo_mem ok k (by omega) h
   ·obtain ⟨h1,h2,h3⟩:=hc
    have hi : (ruleOf g k).getD 0 PItem.zero ∈ ruleOf g k:=by rw [getD_at _ _ _ (by omega)]; exact List.getElem_mem _
    rw [mS.1 h]
    refine ⟨((ok.rules k (by omega)).2.2 _ hi).2,?_⟩
    rw [h3]
    exact ok.ranked k (by omega) _ hi h2
  ·exact singTo_mem ok k (by omega) h
def SingAt (w : World) (b : Nat) (rv : Nat -> Value) : Prop:=∃ cs : Array Value,Blk w b 189 cs /\ cs.size = 64 /\ ∀ s,s < 64 -> cs[s]? = some (rv s)
section
variable {w w' : World} {b : Nat} {rv : Nat -> Value}
theorem SingAt.same (h : SingAt w b rv) (hb : w'.heap[b]? = w.heap[b]?) : SingAt w' b rv:=by
 obtain ⟨cs,h1,h2,h3⟩:=h
 exact ⟨cs,hb.trans h1,h2,h3⟩
theorem SingAt.cell (h : SingAt w b rv) {s : Nat} (hs : s < 64) : w.cell? ⟨b,s,none⟩ = some (rv s):=by
 obtain ⟨cs,h1,_,h3⟩:=h
 exact (h1.cell s).trans (h3 s hs)
theorem SingAt.frozen (h : SingAt w b rv) (s : Nat) : w.frozen? ⟨b,s,none⟩ = false:=by
 obtain ⟨cs,h1,_,_⟩:=h
 exact h1.frozen s
theorem SingAt.lt (h : SingAt w b rv) : b < w.heap.size:=by
 obtain ⟨cs,h1,_,_⟩:=h
 exact h1.lt
theorem SingAt.ne_row {base n : Nat} {v : Value} {xs : List Value} (h : SingAt w b rv) (hr : w.ownsRow base 3 1 v n xs) : v.ownBlock ≠ some b:=by
 obtain ⟨cs,h1,_,_⟩:=h
 exact h1.ne_row hr (by decide)
theorem SingAt.setRow (h : SingAt w b rv) (s : Nat) (v : Value) : SingAt (w.setCell ⟨b,s,none⟩ v) b fun i=>if i = s then v else rv i:=by
 obtain ⟨cs,h1,h2,h3⟩:=h
 refine ⟨_,h1.set_ s _,by simpa using h2,fun i hi=>?_⟩
 show (cs.setIfInBounds s v)[i]? = some (if i = s then v else rv i)
 by_cases e : i = s
 ·subst e
  rw [if_pos rfl,Array.getElem?_setIfInBounds_self_of_lt (by omega)]
 ·rw [if_neg e,Array.getElem?_setIfInBounds_ne (Ne.symm e)]
  exact h3 i hi
end
structure CycB (w0 : World) (B SG : Nat) (rv : Nat -> Value) (ls : Nat -> List Nat) (w : World) : Prop where
 sg : SingAt w SG rv
 rows : RulesR B w rv ls
 below : Below w0.heap.size w0 w
 ge : w0.heap.size <= SG /\ SG < B /\ B <= w.heap.size
section
variable {w0 w w' : World} {B SG : Nat} {rv : Nat -> Value} {ls ls' : Nat -> List Nat}
theorem CycB.keep (h : CycB w0 B SG rv ls w) (hb : Below w.heap.size w w') : CycB w0 B SG rv ls w':=
 ⟨h.sg.same (hb.block _ h.sg.lt),h.rows.far fun s g hs e=>hb.block g ((h.rows.own s hs).1.lt g e).2,h.below.trans (hb.mono h.below.size),h.ge.1,h.ge.2.1,Nat.le_trans h.ge.2.2 hb.size⟩
theorem CycB.congr (h : CycB w0 B SG rv ls w) (e : ls = ls') : CycB w0 B SG rv ls' w:=e ▸ h
theorem CycB.add (h : CycB w0 B SG rv ls w) {L x g m cap : Nat} (hL : L < 64) (hown : w'.ownsRow B 3 1 (.slice (some ⟨g,0,none⟩) m cap) m ((ls L).flatMap natCells ++ natCells x)) (hm : m = (ls L).length + 1)
  (hgr : w.grownBy w' (rv L).ownBlock) (hat : (rv L).ownBlock = some g \/ w.heap.size <= g) :
  CycB w0 B SG (fun i=>if i = L then .slice (some ⟨g,0,none⟩) m cap else rv i) (fun s=>if s = L then ls s ++ [x] else ls s) (w'.setCell ⟨SG,L,none⟩ (.slice (some ⟨g,0,none⟩) m cap)):=by
 have hSl:=h.sg.lt
 have hne : (rv L).ownBlock ≠ some SG:=h.sg.ne_row (h.rows.own L hL).1
 have hrow : ∀ b,(rv L).ownBlock = some b -> B <= b:=fun b e=>((h.rows.own L hL).1.lt b e).1
 have hr:=h.rows.add hL hown hm hgr hat
 have hgB : ∀ s b,s < 64 -> (if s = L then Value.slice (some ⟨g,0,none⟩) m cap else rv s).ownBlock = some b -> b ≠ SG:=fun s b hs e=>by
  have:=((hr.own s hs).1.lt b e).1
  have:=h.ge.2.1
  omega
 refine ⟨(h.sg.same (hgr.block SG hSl (fun e=>hne e.symm))).setRow L _,hr.far fun s b hs e=>Below.heap_setCell w' ⟨SG,L,none⟩ _ b (hgB s b hs e),?_,h.ge.1,h.ge.2.1,?_⟩
 ·exact below_setc (below_grown h.below (lQ _) hgr (fun b e=>by have:=hrow b e; have:=h.ge; omega)) h.ge.1 _
 ·rw [setCell_size]
  exact Nat.le_trans h.ge.2.2 hgr.size
end
def nil64 : Array Value:=#[.slice none 0 0,.slice none 0 0,.slice none 0 0,.slice none 0 0,.slice none 0 0,.slice none 0 0,.slice none 0 0,.slice none 0 0,.slice none 0 0,.slice none 0 0,.slice none 0 0,.slice none 0 0,.slice none 0 0,.slice none 0 0,.slice none 0 0,.slice none 0 0,.slice none 0 0,.slice none 0 0,.slice none 0 0,.slice none 0 0,.slice none 0 0,.slice none 0 0,.slice none 0 0,.slice none 0 0,.slice none 0 0,.slice none 0 0,.slice none 0 0,.slice none 0 0,.slice none 0 0,.slice none 0 0,.slice none 0 0,.slice none 0 0,.slice none 0 0,.slice none 0 0,.slice none 0 0,.slice none 0 0,.slice none 0 0,.slice none 0 0,.slice none 0 0,.slice none 0 0,.slice none 0 0,.slice none 0 0,.slice none 0 0,.slice none 0 0,.slice none 0 0,.slice none 0 0,.slice none 0 0,.slice none 0 0,.slice none 0 0,.slice none 0 0,.slice none 0 0,.slice none 0 0,.slice none 0 0,.slice none 0 0,.slice none 0 0,.slice none 0 0,.slice none 0 0,.slice none 0 0,.slice none 0 0,.slice none 0 0,.slice none 0 0,.slice none 0 0,.slice none 0 0,.slice none 0 0]
def no64 : Array Value:=#[.bool false,.bool false,.bool false,.bool false,.bool false,.bool false,.bool false,.bool false,.bool false,.bool false,.bool false,.bool false,.bool false,.bool false,.bool false,.bool false,.bool false,.bool false,.bool false,.bool false,.bool false,.bool false,.bool false,.bool false,.bool false,.bool false,.bool false,.bool false,.bool false,.bool false,.bool false,.bool false,.bool false,.bool false,.bool false,.bool false,.bool false,.bool false,.bool false,.bool false,.bool false,.bool false,.bool false,.bool false,.bool false,.bool false,.bool false,.bool false,.bool false,.bool false,.bool false,.bool false,.bool false,.bool false,.bool false,.bool false,.bool false,.bool false,.bool false,.bool false,.bool false,.bool false,.bool false,.bool false]
theorem nil64_eq : nil64 = Array.replicate 64 (.slice none 0 0):=by kernel_rfl
theorem no64_eq : no64 = Array.replicate 64 (.bool false):=by kernel_rfl
theorem nil64_at (s : Nat) (hs : s < 64) : nil64[s]? = some (.slice none 0 0):=by rw [nil64_eq,Array.getElem?_replicate,if_pos hs]
theorem no64_at (s : Nat) (hs : s < 64) : no64[s]? = some (.bool false):=by rw [no64_eq,Array.getElem?_replicate,if_pos hs]
theorem cyclic_any {rk : Nat -> Nat} {D : Nat} (gv : Value) (g : List PRule) (w : World) (hg : RulesP (fun _=>True) w gv g) (ok : GramOK g rk D) :
  Calls Tryz.prog 66 #[gv] w fun e w'=>e = .returned (.bool false) /\ Below w.heap.size w w':=by
 obtain ⟨A0,c0,rfl,hn0,hcm0,hA0⟩:=hg
 unfold maxLen at hcm0
 have hgl:=ok.glen
 replace hA0:=Hd hA0
 obtain ⟨W1,hW1⟩ : ∃ W1,W1 = w.alloc (.cells nil64 189):=⟨_,rfl⟩
 obtain ⟨SG,hSG⟩ : ∃ SG,SG = w.heap.size:=⟨_,rfl⟩
 have hbW1 : Below w.heap.size w W1:=by rw [hW1]; exact (Below.refl _ _).alloc (lQ _) _
 have hst : Hid (CycB w W1.heap.size SG (fun _=>.slice none 0 0) (fun s=>singTo g s 0) W1):=Hd (by
  refine ⟨⟨nil64,by rw [hW1,hSG]; exact Blk.new _ _ _,rfl,nil64_at⟩,⟨fun s _=>OwnL.nil_,fun s s' _ _ _ h e=>(by cases e)⟩,hbW1,by omega,?_,lQ _⟩
  rw [hW1,hSG]; simp)
 obtain ⟨i3,hi3,h3z0,h3z1,h3z2⟩:=info_parts info3
 have hgk : Hid (∀ k,k < g.length -> (ruleOf g k).length <= 8 /\ (g.getD k PRule.zero).left < 64 /\ 0 < (ruleOf g k).length):=Hd fun k hk=>⟨(ok.rules k hk).1,(ok.rules k hk).2.1,(ok.full k hk).1⟩
 replace hbW1:=Hd hbW1
 go_enter Tryz.func66,Tryz.ntmps66
 go_upto_region 2 with fail
 rw [show w.alloc (.cells #[.slice none 0 0,.slice none 0 0,.slice none 0 0,.slice none 0 0,.slice none 0 0,.slice none 0 0,.slice none 0 0,.slice none 0 0,.slice none 0 0,.slice none 0 0,.slice none 0 0,.slice none 0 0,.slice none 0 0,.slice none 0 0,.slice none 0 0,.slice none 0 0,.slice none 0 0,.slice none 0 0,.slice none 0 0,.slice none 0 0,.slice none 0 0,.slice none 0 0,.slice none 0 0,.slice none 0 0,.slice none 0 0,.slice none 0 0,.slice none 0 0,.slice none 0 0,.slice none 0 0,.slice none 0 0,.slice none 0 0,.slice none 0 0,.slice none 0 0,.slice none 0 0,.slice none 0 0,.slice none 0 0,.slice none 0 0,.slice none 0 0,.slice none 0 0,.slice none 0 0,.slice none 0 0,.slice none 0 0,.slice none 0 0,.slice none 0 0,.slice none 0 0,.slice none 0 0,.slice none 0 0,.slice none 0 0,.slice none 0 0,.slice none 0 0,.slice none 0 0,.slice none 0 0,.slice none 0 0,.slice none 0 0,.slice none 0 0,.slice none 0 0,.slice none 0 0,.slice none 0 0,.slice none 0 0,.slice none 0 0,.slice none 0 0,.slice none 0 0,.slice none 0 0,.slice none 0 0] 189) = W1 from hW1.symm,<- hSG]
 replace hSG:=Hd hSG
 clear hW1
 go_wp2_with fail
 generalize hB : W1.heap.size = B at hst
 replace hB:=Hd hB
 go_loopw [12] (fun iv wr=>∃ (k : Nat) (rv : Nat -> Value),k <= g.length /\ iv = .int .i64 k /\ Hid (CycB w B SG rv (fun s=>singTo g s k) wr)) (fun iv _=>g.length - (intOf iv).toNat)
 case atStart=>exact ⟨0,_,by omega,rfl,hst⟩
 case round=>
  obtain ⟨k,rv,hk,rfl,hcb⟩:=hrel
  rename World=>wr
  clear hst
  have n0 : (0 : Int) <= (k : Int):=by omega
  by_cases hlt : k < g.length
  ·have n1 : (k : Int) < (g.length : Int):=by omega
   obtain ⟨b0,off0,rfl,hb0,_,hi0⟩:=hA0.out (by omega)
   obtain ⟨hc0,iv,hc1,hiv⟩:=hi0 k hlt
   obtain ⟨hg8,hL64,hg1⟩:=hgk.out k hlt
   have hrul : Hid (ruleOf g k = (g.getD k PRule.zero).right):=Hd rfl
   have hsing:=Hd fun s=>show singTo g s (k + 1) = if (ruleOf g k).length = 1 /\ ((ruleOf g k).getD 0 PItem.zero).cls = 0 /\ s = (g.getD k PRule.zero).left then singTo g s k ++ [((ruleOf g k).getD 0 PItem.zero).sym] else singTo g s k from rfl
   rw [hrul.out] at hg8 hg1 hsing
   obtain ⟨L,hL⟩ : ∃ L,L = (g.getD k PRule.zero).left:=⟨_,rfl⟩
   obtain ⟨its,hits⟩ : ∃ its,its = (g.getD k PRule.zero).right:=⟨_,rfl⟩
   rw [<- hL] at hc0 hL64 hsing
   rw [<- hits] at hiv hg8 hg1 hsing
   clear hrul
   replace hL:=Hd hL
   replace hits:=Hd hits
   have hbr:=hcb.out.below
   have d0:=(hbr.cell (p:=⟨b0,off0 + k * 2,none⟩) (cell_lt hc0)).trans hc0
   have d1:=(hbr.cell (p:=⟨b0,off0 + k * 2 + 1,none⟩) (cell_lt hc1)).trans hc1
   obtain ⟨Ai,ci,rfl,hni,hcmi,hAi⟩:=hiv
   unfold maxLen at hcmi
   obtain ⟨bi,oi,rfl,hbi,_,hii⟩:=hAi hg1
   obtain ⟨t0,t1⟩ : ItemAt w bi (oi + 0 * 2) (its.getD 0 PItem.zero):=hii 0 hg1
   have e0:=(hbr.cell (p:=⟨bi,oi + 0 * 2,none⟩) hbi).trans t0
   have e1:=(hbr.cell (p:=⟨bi,oi + 0 * 2 + 1,none⟩) hbi).trans t1
   simp only [Nat.zero_mul,Nat.add_zero] at e0 e1
   have hbiw : Hid (bi < wr.heap.size):=Hd (Nat.lt_of_lt_of_le hbi hbr.size)
   clear hc0 hc1 hbr hi0 t0 t1 hii hAi
   generalize its.getD 0 PItem.zero = it at e0 e1 hsing
   obtain ⟨cl,sy⟩:=it
   simp only at e0 e1 hsing
   go_upto_region 5 with fail
   obtain ⟨w1,hw1⟩ : ∃ w1,w1 = wr.alloc (.cells #[.int .i64 (L : Int),.slice (some ⟨bi,oi,none⟩) its.length ci] 74):=⟨_,rfl⟩
   have kR1 : Hid (Blk w1 wr.heap.size 74 #[.int .i64 (L : Int),.slice (some ⟨bi,oi,none⟩) its.length ci]):=Hd (by rw [hw1]; exact Blk.new _ _ _)
   have hbw1 : Below wr.heap.size wr w1:=by rw [hw1]; exact (Below.refl _ _).alloc (lQ _) _
   have hcb1:=Hd (hcb.out.keep hbw1)
   have g0 : Hid (w1.cell? ⟨bi,oi,none⟩ = some (.int .u16 (cl : Int))):=Hd ((hbw1.cell (p:=⟨bi,oi,none⟩) hbiw.out).trans e0)
   have g1 : Hid (w1.cell? ⟨bi,oi + 1,none⟩ = some (.int .i64 (sy : Int))):=Hd ((hbw1.cell (p:=⟨bi,oi + 1,none⟩) hbiw.out).trans e1)
   have hSGr : Hid (SG ≠ wr.heap.size):=Hd (by have:=hcb.out.sg.lt; omega)
   rw [<- hw1]
   clear hw1 hbw1 hcb d0 d1 e0 e1 hbiw
   generalize wr.heap.size = RB at *
   have r0:=kR1.out.cell 0
   have r1:=kR1.out.cell 1
   simp at r0 r1
   have g0':=g0.out
   have g1':=g1.out
   have lbi:=cell_lt g0'
   by_cases hone : its.length = 1
   ·rw [hone] at kR1 r1 hni ⊢
    by_cases hcl : cl = 0
    ·subst hcl
     have hsL : Hid ((fun s=>singTo g s (k + 1)) = fun s=>if s = L then singTo g s k ++ [sy] else singTo g s k):=Hd (by
      funext s
      rw [hsing.out s]
      simp [hone])
     have hcl0:=hcb1.out.sg.cell hL64
     obtain ⟨A2,c2,hrv⟩:=(hcb1.out.rows.own L hL64).form_
     have hcell : Hid (∀ w2,Below w1.heap.size w1 w2 -> w2.cell? ⟨SG,L,none⟩ = some (.slice A2 (singTo g L k).length c2)):=Hd (fun w2 h2=>by
      rw [<- hrv]
      exact (h2.cell (p:=⟨SG,L,none⟩) hcb1.out.sg.lt).trans hcl0)
     have hsl:=singTo_len g L k
     have hrow1 : Hid (w1.ownsRow B 3 1 (.slice A2 (singTo g L k).length c2) (singTo g L k).length ((singTo g L k).flatMap natCells)):=Hd (by rw [<- hrv]; exact (hcb1.out.rows.own L hL64).1)
     replace hrv:=Hd hrv
     clear hcl0
     generalize hsL2 : (singTo g L k).length = sl at *
     replace hsL2:=Hd hsL2
     have sl8 : sl <= 200:=by omega
     replace hsl:=Hd hsl
     have nL0 : (0 : Int) <= (L : Int):=by omega
     have nL1 : (L : Int) < 64:=by omega
     clear r0 r1 g0' g1'
     have hcq : Hid (∀ w2,Below w1.heap.size w1 w2 -> (Blk w2 RB 74 #[.int .i64 (L : Int),.slice (some ⟨bi,oi,none⟩) 1 ci] /\ w2.cell? ⟨SG,L,none⟩ = some (.slice A2 sl c2)) /\ (w2.cell? ⟨bi,oi,none⟩ = some (.int .u16 ((0 : Nat) : Int)) /\ w2.cell? ⟨bi,oi + 1,none⟩ = some (.int .i64 (sy : Int)))):=Hd fun w2 hb=>
      ⟨⟨kR1.out.below hb kR1.out.lt,hcell.out w2 hb⟩,(hb.cell (p:=⟨bi,oi,none⟩) lbi).trans g0.out,(hb.cell (p:=⟨bi,oi + 1,none⟩) lbi).trans g1.out⟩
     have r0:=(hcq.out w1 (Below.refl _ _)).1.1.cell 0
     have r1:=(hcq.out w1 (Below.refl _ _)).1.1.cell 1
     simp at r0 r1
     have g0':=g0.out
     go_upto_region 6 with fail
     clear r0 r1 g0'
     refine wp_region_flow (C:=fun w2=>(Blk w2 RB 74 #[.int .i64 (L : Int),.slice (some ⟨bi,oi,none⟩) 1 ci] /\ w2.cell? ⟨SG,L,none⟩ = some (.slice A2 sl c2)) /\ (w2.cell? ⟨bi,oi,none⟩ = some (.int .u16 ((0 : Nat) : Int)) /\ w2.cell? ⟨bi,oi + 1,none⟩ = some (.int .i64 (sy : Int)))) [true,true,true,true,true,true,true,true,true,true,true,false,false,false] [11,12,13] _ (by kernel_rfl) (by kernel_rfl) (by kernel_rfl) rfl (by rfl) (by kernel_rfl)
      (fun w2 hb=>hcq.out w2 hb) ?A1 ?q1 ?t1
     case q1=>
      intro S' hS hSC hne
      have y0:=fun (u : UpsC S')=>(hSC u.wld u.mem).1.1.cell 0
      have y1:=fun (u : UpsC S')=>(hSC u.wld u.mem).1.1.cell 1
      have y2:=fun (u : UpsC S')=>(hSC u.wld u.mem).1.2
      have y3:=fun (u : UpsC S')=>(hSC u.wld u.mem).2.1
      have y4:=fun (u : UpsC S')=>(hSC u.wld u.mem).2.2
      simp at y0 y1
      simp only [pickB,if_true,if_false,Bool.false_eq_true]
      repeat (go_big_quiet_step (fail))
      refine wpQuiet_nil ?_
      rfl
     simp only [pickB,if_true,if_false,Bool.false_eq_true,Bool.true_eq_false]
     refine mkL_cons rfl fun w3 hb3 Q' hQ'=>?_
     go_wp2_with fail
     have hb4:=(hb3.alloc hb3.size (.cells #[.int .i64 (sy : Int)] 3))
     have kX:=Blk.new w3 3 #[.int .i64 (sy : Int)]
     refine hQ' _ _ rfl (fun w5 hb5=>hcq.out w5 (hb4.trans (hb5.mono hb4.size))) ?_
     clear hQ'
     refine mkL_cons rfl fun w5 hb5 Q' hQ'=>?_
     have hb5':=Hd (hb4.trans (hb5.mono hb4.size))
     have hcb5:=Hd (hcb1.out.keep hb5'.out)
     have hrow5:=Hd (row_below hrow1.out hb5'.out)
     have kX5:=kX.below hb5 kX.lt
     have sd1 : sl + 1 <= maxLen:=by unfold maxLen; omega
     have sd4 : (sl + 1) * 8 <= 140737488355328:=by omega
     clear hb4 hb5
     generalize w3.heap.size = XB at *
     (refine wpList_append_lies _ rfl (.tmp 33) (.tmp 39) 141 rfl B 3 i3 (.int .i64 0) 1 8 Tryz.underlying141 hi3 h3z0 h3z1 h3z2 rfl (by decide) (.slice A2 sl c2) sl ((singTo g L k).flatMap natCells) rfl (by exact hrow5.out) ⟨XB,0,none⟩ 1 1 [.int .i64 (sy : Int)] rfl rfl (by exact World.news_of_block (cs:=#[.int .i64 (sy : Int)]) kX5) (by intro u hu; rw [mS.1 hu]; rfl) Nat.one_pos sd1 sd4 hcb5.out.ge.2.2 w5.heap.size rfl ?_; intro g9 cap9 w9 hown9 hgr9 hat9 hlt9)
     have hown9':=Hd hown9
     have hgr9':=Hd hgr9
     have hat9':=Hd hat9
     have hRr : (Value.slice A2 sl c2).ownBlock ≠ some RB:=(kR1.out.below hb5'.out kR1.out.lt).ne_row hrow5.out (by decide)
     have hSr : (Value.slice A2 sl c2).ownBlock ≠ some SG:=hcb5.out.sg.ne_row hrow5.out
     have hbr9 : ∀ b,(Value.slice A2 sl c2).ownBlock = some b -> B <= b:=fun b e=>(hrow5.out.lt b e).1
     have hc9 : Hid (∀ w2,Below w9.heap.size w9 w2 -> (Blk w2 RB 74 #[.int .i64 (L : Int),.slice (some ⟨bi,oi,none⟩) 1 ci] /\ w2.cell? ⟨SG,L,none⟩ = some (.slice A2 sl c2)) /\ (w2.cell? ⟨bi,oi,none⟩ = some (.int .u16 ((0 : Nat) : Int)) /\ w2.cell? ⟨bi,oi + 1,none⟩ = some (.int .i64 (sy : Int)))):=Hd fun w2 hb=>by
      have hq:=hcq.out w5 hb5'.out
      have hbib : some bi ≠ (Value.slice A2 sl c2).ownBlock:=fun e=>by
       have:=hbr9 bi e.symm
       have h2:=hcb5.out.ge
       have:=hSG.out
       omega
      have k9 : Blk w9 RB 74 #[.int .i64 (L : Int),.slice (some ⟨bi,oi,none⟩) 1 ci]:=hq.1.1.grown hgr9 (fun e=>hRr e.symm)
      have s9 : w9.cell? ⟨SG,L,none⟩ = some (.slice A2 sl c2):=hgr9.cell hq.1.2 (fun e=>hSr e.symm)
      have t9 : w9.cell? ⟨bi,oi,none⟩ = some (.int .u16 ((0 : Nat) : Int)):=hgr9.cell hq.2.1 hbib
      have u9 : w9.cell? ⟨bi,oi + 1,none⟩ = some (.int .i64 (sy : Int)):=hgr9.cell hq.2.2 hbib
      exact ⟨⟨k9.below hb k9.lt,(hb.cell (p:=⟨SG,L,none⟩) (cell_lt s9)).trans s9⟩,(hb.cell (p:=⟨bi,oi,none⟩) (cell_lt t9)).trans t9,(hb.cell (p:=⟨bi,oi + 1,none⟩) (cell_lt u9)).trans u9⟩
     clear hown9 hgr9 hat9 hRr hSr hbr9 kX5 kX
     apply wpList_nil
     refine hQ' _ _ rfl (fun w10 hb10=>hc9.out w10 hb10) ?_
     clear hQ'
     refine mkL_cons rfl fun w10 hb10 Q' hQ'=>?_
     simp only [Act.put,sX,sS,sZ]
     replace hb10:=Hd hb10
     go_wp2_with fail
     refine hQ' _ _ rfl (fun w11 hb11=>hc9.out w11 (hb10.out.trans (hb11.mono hb10.out.size))) ?_
     clear hQ'
     intro w11 hb11'
     have hb11:=Hd (hb10.out.trans (hb11'.mono hb10.out.size))
     clear hb11' hb10
     have hown11:=row_below hown9'.out hb11.out
     have hgr11:=grown_below hgr9'.out hb11.out
     have hadd:=hcb5.out.add (x:=sy) hL64 hown11 (by rw [hsL2.out]) (by rw [hrv.out]; exact hgr11) (by rw [hrv.out]; exact hat9'.out.imp_right (fun e=>by rw [e]; exact lQ _))
     replace hadd:=Hd (hadd.congr hsL.out.symm)
     have z0:=(hc9.out w11 hb11.out).1.2
     have f0 : w11.frozen? ⟨SG,L,none⟩ = false:=(hcb5.out.sg.same ((hb11.out.block SG (cell_lt (hc9.out w9 (Below.refl _ _)).1.2)).trans (hgr9'.out.block SG hcb5.out.sg.lt (fun e=>hcb5.out.sg.ne_row hrow5.out e.symm)))).frozen _
     have l0:=cell_lt z0
     clear hown11 hgr11 hb11 hgr9' hat9' hown9' hc9 hrow5 hcb5 hb5' hcq hcell hcb1 kR1 hrow1
     go_wp2_with fail
     clear z0 f0 l0
     go_roundw
     case rel=>exact ⟨k + 1,_,by omega,by go_num,hadd⟩
     case measure=>simp [intOf]; omega
    ·have m0 : ((cl : Int) == 0) = false:=by rw [beq_eq_false_iff_ne]; omega
     have hsame : Hid ((fun s=>singTo g s k) = fun s=>singTo g s (k + 1)):=Hd (by
      funext s
      rw [hsing.out s,if_neg (fun h=>hcl h.2.1)])
     go_wp2_with fail
     go_roundw
     case rel=>exact ⟨k + 1,rv,by omega,by go_num,Hd (hcb1.out.congr hsame.out)⟩
     case measure=>simp [intOf]; omega
   ·have m0 : ((its.length : Int) == 1) = false:=by rw [beq_eq_false_iff_ne]; omega
    have hsame : Hid ((fun s=>singTo g s k) = fun s=>singTo g s (k + 1)):=Hd (by
     funext s
     rw [hsing.out s,if_neg (fun h=>hone h.1)])
    go_wp2_with fail
    go_roundw
    case rel=>exact ⟨k + 1,rv,by omega,by go_num,Hd (hcb1.out.congr hsame.out)⟩
    case measure=>simp [intOf]; omega
  ·obtain rfl : k = g.length:=by omega
   obtain ⟨wA,hwA⟩ : ∃ wA,wA = wr.alloc (.cells no64 190):=⟨_,rfl⟩
   obtain ⟨wB,hwB⟩ : ∃ wB,wB = wA.alloc (.cells no64 190):=⟨_,rfl⟩
   obtain ⟨wC,hwC⟩ : ∃ wC,wC = wB.alloc (.cells #[.nilFunc] 188):=⟨_,rfl⟩
   have hbA : Below wr.heap.size wr wA:=by rw [hwA]; exact (Below.refl _ _).alloc (lQ _) _
   have hbB : Below wr.heap.size wr wB:=by rw [hwB]; exact hbA.alloc hbA.size _
   have hbC : Below wr.heap.size wr wC:=by rw [hwC]; exact hbB.alloc hbB.size _
   have kA : Blk wC wr.heap.size 190 no64:=by rw [hwC,hwB]; refine Blk.alloc (Blk.alloc ?_ _) _; rw [hwA]; exact Blk.new _ _ _
   have kB : Blk wC wA.heap.size 190 no64:=by rw [hwC]; refine Blk.alloc ?_ _; rw [hwB]; exact Blk.new _ _ _
   have kC : Blk wC wB.heap.size 188 #[.nilFunc]:=by rw [hwC]; exact Blk.new _ _ _
   have sA : wr.heap.size < wA.heap.size:=by rw [hwA]; simp
   have sB : wA.heap.size < wB.heap.size:=by rw [hwB]; simp
   have hcbC:=hcb.out.keep hbC
   have sA1 : wr.heap.size + 1 = wA.heap.size:=by rw [hwA]; simp
   obtain ⟨wD,hwD⟩ : ∃ wD,wD = wC.setCell ⟨wB.heap.size,0,none⟩ (derivesF wr.heap.size wA.heap.size SG wB.heap.size):=⟨_,rfl⟩
   have hge:=hcb.out.ge
   have hbD : Below w.heap.size w wD:=by rw [hwD]; exact below_setc hcbC.below (by have:=hcb.out.below.size; omega) _
   have hSGl:=hcb.out.sg.lt
   have hckD : CKp (fun b=>b = wB.heap.size) wC wD:=by rw [hwD]; exact CKp.set_ wC _ _ rfl
   have hfar : ∀ b,b ≠ wB.heap.size -> wD.heap[b]? = wC.heap[b]?:=fun b hb=>by rw [hwD]; exact Below.heap_setCell wC _ _ b hb
   have kD:=kC.set_ 0 (derivesF wr.heap.size wA.heap.size SG wB.heap.size)
   rw [<- hwD] at kD
   have hcm : Hid (CycM wD wr.heap.size wA.heap.size SG wB.heap.size (fun s=>singTo g s g.length) (fun _=>false) (fun _=>false)):=Hd {
    hon:=⟨no64,(hfar _ (by omega)).trans kA,rfl,no64_at⟩
    hdn:=⟨no64,(hfar _ (by omega)).trans kB,rfl,no64_at⟩
    hsg:=fun s hs=>by
     refine ⟨rv s,hckD.cell _ _ _ (by omega) (hcbC.sg.cell hs),?_⟩
     have h1 : NatsO .i64 (FlagsO wr.heap.size wA.heap.size) wC (rv s) (singTo g s g.length):=(hcbC.rows.own s hs).sl_ fun b hb e=>by
      have:=((hcb.out.rows.own s hs).1.lt b e).2
      rintro (h | h) <;> omega
     have h2 : NatsO .i64 (fun b=>b = wB.heap.size) wC (rv s) (singTo g s g.length):=(hcbC.rows.own s hs).sl_ fun b hb e=>by
      have:=((hcb.out.rows.own s hs).1.lt b e).2
      show ¬ b = wB.heap.size
      omega
     have h3:=h2.keep hckD (O':=fun b=>b = wB.heap.size) (fun b h=>.inl h)
     obtain ⟨A,c,e1,e2,e3,e4⟩:=h1
     obtain ⟨A',c',e1',_,_,e4'⟩:=h3
     have ee:=e1.symm.trans e1'
     cases ee
     refine ⟨A,c,e1,e2,e3,fun h0=>?_⟩
     obtain ⟨b,off,rfl,k1,k2,k3⟩:=e4 h0
     obtain ⟨b',off',ee,k1',k2',k3'⟩:=e4' h0
     cases ee
     exact ⟨b,off,rfl,k1',k2,k3'⟩
    hdv:=by have:=kD.cell 0; simpa using this
    ne:=⟨by omega,by omega,by omega,by omega,by omega⟩ }
   have hON : Hid (w.heap.size <= wr.heap.size /\ wr.heap.size < wA.heap.size):=Hd ⟨hcb.out.below.size,sA⟩
   have hls : Hid (∀ s,s < 64 -> (singTo g s g.length).length <= 200 /\ ∀ t ∈ singTo g s g.length,t < 64 /\ rk t < rk s):=Hd fun s _=>⟨Nat.le_trans (singTo_len g s _) hgl,fun t ht=>singTo_mem ok _ (lQ _) ht⟩
   have z0:=kC.cell 0
   have f0:=kC.frozen 0
   have l0:=kC.lt
   simp at z0
   replace hbD:=Hd hbD
   replace hwA:=Hd hwA
   replace hwB:=Hd hwB
   replace hwC:=Hd hwC
   replace hwD:=Hd hwD
   replace sA1:=Hd sA1
   clear hbA hbB hbC kA kB kC sA sB hcbC hge hSGl hckD hfar kD hcb
   go_upto_region 9 with fail
   rw [show wr.alloc (.cells #[.bool false,.bool false,.bool false,.bool false,.bool false,.bool false,.bool false,.bool false,.bool false,.bool false,.bool false,.bool false,.bool false,.bool false,.bool false,.bool false,.bool false,.bool false,.bool false,.bool false,.bool false,.bool false,.bool false,.bool false,.bool false,.bool false,.bool false,.bool false,.bool false,.bool false,.bool false,.bool false,.bool false,.bool false,.bool false,.bool false,.bool false,.bool false,.bool false,.bool false,.bool false,.bool false,.bool false,.bool false,.bool false,.bool false,.bool false,.bool false,.bool false,.bool false,.bool false,.bool false,.bool false,.bool false,.bool false,.bool false,.bool false,.bool false,.bool false,.bool false,.bool false,.bool false,.bool false,.bool false] 190) = wA from hwA.out.symm,show wA.alloc (.cells #[.bool false,.bool false,.bool false,.bool false,.bool false,.bool false,.bool false,.bool false,.bool false,.bool false,.bool false,.bool false,.bool false,.bool false,.bool false,.bool false,.bool false,.bool false,.bool false,.bool false,.bool false,.bool false,.bool false,.bool false,.bool false,.bool false,.bool false,.bool false,.bool false,.bool false,.bool false,.bool false,.bool false,.bool false,.bool false,.bool false,.bool false,.bool false,.bool false,.bool false,.bool false,.bool false,.bool false,.bool false,.bool false,.bool false,.bool false,.bool false,.bool false,.bool false,.bool false,.bool false,.bool false,.bool false,.bool false,.bool false,.bool false,.bool false,.bool false,.bool false,.bool false,.bool false,.bool false,.bool false] 190) = wB from hwB.out.symm,sA1.out]
   clear hwA hwB sA1
   generalize wr.heap.size = ON at *
   generalize wA.heap.size = DN at *
   go_upto_region 10 with fail
   rw [<- hwC.out]
   clear hwC
   generalize wB.heap.size = DV at *
   go_upto_region 11 with fail
   rw [<- hwD.out]
   clear hwD z0 f0 l0
   go_wp2_with fail
   go_loopw [44] (fun iv wx=>∃ (j : Nat) (dn : Nat -> Bool),j <= 64 /\ iv = .int .i64 j /\ Hid (CycM wx ON DN SG DV (fun s=>singTo g s g.length) (fun _=>false) dn) /\ Hid (Below w.heap.size w wx)) (fun iv _=>64 - (intOf iv).toNat)
   case atStart=>exact ⟨0,_,by omega,rfl,hcm,hbD⟩
   case round=>
    obtain ⟨j,dn,hj,rfl,hcj,hbj⟩:=hrel
    rename World=>wx
    clear hcm hbD
    have m0 : (0 : Int) <= (j : Int):=by omega
    by_cases hjl : j < 64
    ·have m1 : (j : Int) < 64:=by omega
     have y0:=hcj.out.hdv
     have hd:=Hd (derives_any hls.out (rk j + 1) j _ dn wx (Nat.lt_succ_self _) hjl hcj.out (fun _ _ _=>rfl))
     go_wp2_with fail
     refine hd.out.mono ?_
     rintro e w3 ⟨rfl,dn3,hc3,hk3⟩
     have hb3:=Hd (KeepM.below hbj.out hk3 (lQ _) (fun b hb h=>by have:=hON.out; rcases h with h | h <;> omega))
     replace hc3:=Hd hc3
     clear hd y0 hk3 hcj hbj
     go_wp2_with fail
     go_roundw
     case rel=>exact ⟨j + 1,dn3,by omega,by go_num,hc3,hb3⟩
     case measure=>simp [intOf]; omega
    ·obtain rfl : j = 64:=by omega
     go_wp2_with fail
     go_ret
     exact ⟨rfl,hbj.out⟩
end
section
open Go Go.RowKit Go.Maps
theorem valid_any {rk : Nat -> Nat} {D : Nat} (gv : Value) (g : List PRule) (w : World) (hg : RulesP (fun _=>True) w gv g) (ok : GramOK g rk D) :
  Calls Tryz.prog 27 #[gv] w fun e w'=>e = .returned (.int .i64 0) /\ Below w.heap.size w w':=by
 have hg':=Hd hg
 obtain ⟨A0,c0,rfl,hn0,hcm0,hA0⟩:=hg
 unfold maxLen at hcm0
 have hgl:=ok.glen
 replace hA0:=Hd hA0
 have q0 : ¬ (200 : Int) < (g.length : Int):=by omega
 go_enter Tryz.func27,Tryz.ntmps27
 go_wp2
 go_loopw [11] (fun iv wr=>∃ k : Nat,k <= g.length /\ iv = .int .i64 k /\ Hid (Below w.heap.size w wr)) (fun iv _=>g.length - (intOf iv).toNat)
 case atStart=>exact ⟨0,by omega,rfl,Hd (Below.refl _ _)⟩
 case round=>
  obtain ⟨k,hk,rfl,hbr⟩:=hrel
  rename World=>wr
  have n0 : (0 : Int) <= (k : Int):=by omega
  by_cases hlt : k < g.length
  ·have n1 : (k : Int) < (g.length : Int):=by omega
   obtain ⟨b0,off0,rfl,hb0,_,hi0⟩:=hA0.out (by omega)
   obtain ⟨hc0,iv,hc1,hiv⟩:=hi0 k hlt
   have r1:=ok.rules k hlt
   have r2:=ok.full k hlt
   have hit : ∀ i ∈ (g.getD k PRule.zero).right,i.cls < 65536 /\ i.sym < 64 /\ (i.cls ≠ 0 -> i.sym = 0):=fun i hi=>⟨(r1.2.2 i hi).1,(r1.2.2 i hi).2,r2.2 i hi⟩
   have hiv2 : ItemsP (fun _=>True) wr iv (g.getD k PRule.zero).right:=hiv.below ⟨hbr.out.os,hbr.out.tape,hbr.out.output,hbr.out.size,hbr.out.block⟩
   have d0:=(hbr.out.cell (p:=⟨b0,off0 + k * 2,none⟩) (cell_lt hc0)).trans hc0
   have d1:=(hbr.out.cell (p:=⟨b0,off0 + k * 2 + 1,none⟩) (cell_lt hc1)).trans hc1
   obtain ⟨w1,hw1⟩ : ∃ w1,w1 = wr.alloc (.cells #[.int .i64 ((g.getD k PRule.zero).left : Int),iv] 74):=⟨_,rfl⟩
   have hb1 : Below wr.heap.size wr w1:=by rw [hw1]; exact (Below.refl _ _).alloc (lQ _) _
   have kb1 : Blk w1 wr.heap.size 74 #[.int .i64 ((g.getD k PRule.zero).left : Int),iv]:=by rw [hw1]; exact Blk.new _ _ _
   have hcall:=Hd (ruleChecked_any (P:=fun _=>True) (g.getD k PRule.zero).left iv (g.getD k PRule.zero).right w1 (hiv2.below hb1) r1.2.1 r2.1 r1.1 hit)
   obtain ⟨Ai,ci,rfl⟩ : ∃ A c,iv = .slice A (g.getD k PRule.zero).right.length c:=by obtain ⟨A,c,e,_⟩:=hiv; exact ⟨A,c,e⟩
   have hbx:=Hd (hbr.out.trans (hb1.mono hbr.out.size))
   clear hi0 hc0 hc1 r1 r2 hit hiv hiv2 hbr
   generalize g.getD k PRule.zero = rl at *
   obtain ⟨lf,rt⟩:=rl
   simp only at d0 d1 kb1 hcall hw1
   generalize rt.length = rn at *
   go_upto_region 6 with fail
   rw [<- hw1]
   clear hw1 d0 d1 hb1
   generalize wr.heap.size = RB at *
   have y0:=kb1.cell 0
   have y1:=kb1.cell 1
   simp at y0 y1
   go_wp2_with fail
   refine hcall.out.mono ?_
   rintro e w3 ⟨rfl,hb3⟩
   have hb3':=Hd (hbx.out.trans (hb3.mono hbx.out.size))
   clear hcall hb3 hbx kb1 y0 y1
   go_wp2_with fail
   go_roundw
   case rel=>exact ⟨k + 1,by omega,by go_num,hb3'⟩
   case measure=>simp [intOf]; omega
  ·obtain rfl : k = g.length:=by omega
   have hcy:=Hd (cyclic_any _ g wr (RulesP.below hg'.out hbr.out) ok)
   go_wp2_with fail
   refine hcy.out.mono ?_
   rintro e w3 ⟨rfl,hb3⟩
   have hb3':=Hd (hbr.out.trans (hb3.mono hbr.out.size))
   clear hcy hb3
   go_wp2_with fail
   go_ret
   exact ⟨rfl,hb3'.out⟩
theorem checked_any {rk : Nat -> Nat} {D : Nat} (gv : Value) (g : List PRule) (At : Option Addr) (tn tc : Nat) (w : World) (hg : RulesP (fun _=>True) w gv g) (ok : GramOK g rk D) (ht : tn <= 40) :
  Calls Tryz.prog 112 #[gv,.slice At tn tc] w fun e w'=>e = .returned (.int .i64 0) /\ Below w.heap.size w w':=by
 have hv:=Hd (valid_any gv g w hg ok)
 obtain ⟨A0,c0,rfl,-,-,-⟩:=hg
 have q0 : ¬ (40 : Int) < (tn : Int):=by omega
 go_enter Tryz.func112,Tryz.ntmps112
 go_wp2_with fail
 refine hv.out.mono ?_
 rintro e w3 ⟨rfl,hb3⟩
 replace hb3:=Hd hb3
 clear hv
 go_wp2_with fail
 go_ret
 exact ⟨rfl,hb3.out⟩
end
end Go.Proofs.YteclineblddpbaaGreatDoorR
