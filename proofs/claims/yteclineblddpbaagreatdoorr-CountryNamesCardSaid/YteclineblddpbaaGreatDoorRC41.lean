import Derived.Test.YteclineblddpbaaGreatDoorRC01
import Derived.Test.YteclineblddpbaaGreatDoorRC40
set_option linter.all false
set_option maxRecDepth 100000
set_option maxHeartbeats 0
namespace Go.Proofs.YteclineblddpbaaGreatDoorR
section
def WordOK (w : ByteArray) : Prop:=AllPlain w /\ w.size ≠ 0
theorem WordOK.part {w : ByteArray} (h : WordOK w) : PartOK w:=PartOK.of_plain h.1 h.2
theorem bytes_eq {a b : ByteArray} (h : a.data.toList = b.data.toList) : a = b:=by
 obtain ⟨⟨l⟩⟩:=a
 obtain ⟨⟨m⟩⟩:=b
 have : l = m:=h
 rw [this]
theorem drop_at {L z rest : List UInt8} {i0 j : Nat} (hL : L.drop i0 = z ++ rest) (hj : j < z.length) : L[i0 + j]? = some z[j]:=by
 have : (L.drop i0)[j]? = some z[j]:=by rw [hL,List.getElem?_append_left hj,List.getElem?_eq_getElem hj]
 rwa [List.getElem?_drop] at this
theorem scan_word {s : ByteArray} {i0 : Nat} {z rest : List UInt8} {done : List ByteArray} (hL : s.data.toList.drop i0 = z ++ rest) (hz : ∀ b ∈ z,b.toNat ≠ 32) (h0 : wordsTo s i0 = (i0,done)) : ∀ j,j <= z.length -> wordsTo s (i0 + j) = (i0,done)
 | 0,_=>h0
 | j + 1,hj=>by
  obtain ⟨h1,h2⟩:=byteAt_list (drop_at hL (j:=j) (by omega))
  rw [<- Nat.add_assoc,wordsTo_keep h1 (by rw [h2]; exact hz _ (List.getElem_mem _))]
  exact scan_word hL hz h0 j (by omega)
theorem scan_cut {s : ByteArray} {i0 : Nat} {z rest : List UInt8} {done : List ByteArray} (hL : s.data.toList.drop i0 = z ++ rest) (hz : ∀ b ∈ z,b.toNat ≠ 32) (h0 : wordsTo s i0 = (i0,done)) (hz0 : z ≠ []) (hr : rest = [] \/ ∃ r,rest = 32 :: r) :
  wordsTo s (i0 + z.length + 1) = (i0 + z.length + 1,done ++ [⟨z.toArray⟩]):=by
 have h1:=scan_word hL hz h0 z.length (lQ _)
 have hlen:=List.length_pos_iff.2 hz0
 have hnot : ¬ (i0 + z.length < s.size /\ byteAt s (i0 + z.length) ≠ 32):=by
  rintro ⟨h2,h3⟩
  rcases hr with rfl | ⟨r,rfl⟩
  ·rw [Lib.size_eq] at h2
   have:=congrArg List.length hL
   rw [List.length_drop,List.append_nil] at this
   omega
  ·have : (s.data.toList.drop i0)[z.length]? = some 32:=by rw [hL,List.getElem?_append_right (lQ _),Nat.sub_self]; rfl
   rw [List.getElem?_drop] at this
   exact h3 (byteAt_list this).2
 rw [wordsTo_cut hnot,h1]
 show (_,if i0 < i0 + z.length then done ++ [s.extract i0 (i0 + z.length)] else done) = _
 rw [if_pos (by omega)]
 congr 3
 apply bytes_eq
 rw [ByteArray.data_extract,Array.toList_extract,List.extract_eq_take_drop,hL,Nat.add_sub_cancel_left,List.take_left]
abbrev JT (ws : List ByteArray) : List UInt8:=Lib.joinTail [32] (ws.map (·.data.toList))
theorem JT_cons (w : ByteArray) (r : List ByteArray) : JT (w :: r) = 32 :: (w.data.toList ++ JT r):=by
 unfold JT Lib.joinTail
 rw [List.map_cons,List.map_cons,List.flatten_cons]
 rfl
theorem JT_append (a b : List ByteArray) : JT (a ++ b) = JT a ++ JT b:=by
 unfold JT Lib.joinTail
 rw [List.map_append,List.map_append,List.flatten_append]
theorem joinS_list (w : ByteArray) (r : List ByteArray) : (joinS (w :: r)).data.toList = w.data.toList ++ JT r:=by
 show Lib.join ((w :: r).map (·.data.toList)) [32] = _
 rw [List.map_cons,Lib.join_cons]
theorem joinS_JT {ws : List ByteArray} (h : ws ≠ []) : 32 :: (joinS ws).data.toList = JT ws:=by
 cases ws with
 | nil=>exact absurd rfl h
 | cons w r=>rw [joinS_list,JT_cons]
theorem plain_no32 {w : ByteArray} (h : AllPlain w) : ∀ b ∈ w.data.toList,b.toNat ≠ 32:=fun b hb=>plain_ne (h b hb)
theorem word_ne {w : ByteArray} (h : w.size ≠ 0) : w.data.toList ≠ []:=fun e=>h (by rw [Lib.size_eq,e]; rfl)
theorem scan_all (s : ByteArray) : ∀ (r : List ByteArray) (w : ByteArray) (i0 : Nat) (done : List ByteArray),(∀ x ∈ w :: r,WordOK x) -> s.data.toList.drop i0 = w.data.toList ++ JT r -> wordsTo s i0 = (i0,done) -> i0 <= s.size -> wordsOf s = done ++ w :: r
 | [],w,i0,done,h,hL,h0,hi=>by
  have hw:=h w (List.mem_cons_self ..)
  have h1:=scan_cut hL (plain_no32 hw.1) h0 (word_ne hw.2) (.inl rfl)
  have hsz : i0 + w.data.toList.length = s.size:=by
   have:=congrArg List.length hL
   rw [List.length_drop,List.length_append] at this
   have e : (JT []).length = 0:=rfl
   rw [Lib.size_eq] at hi ⊢
   omega
  unfold wordsOf
  rw [hsz] at h1
  rw [h1]
 | x :: r,w,i0,done,h,hL,h0,hi=>by
  have hw:=h w (List.mem_cons_self ..)
  have h1:=scan_cut hL (plain_no32 hw.1) h0 (word_ne hw.2) (.inr ⟨_,JT_cons x r⟩)
  have hlen:=congrArg List.length hL
  rw [List.length_drop,List.length_append,JT_cons,List.length_cons] at hlen
  have ih:=scan_all s r x (i0 + w.data.toList.length + 1) (done ++ [w]) (fun y hy=>h y (List.mem_cons_of_mem _ hy)) (by
   rw [show i0 + w.data.toList.length + 1 = i0 + (w.data.toList.length + 1) by omega,<- List.drop_drop,hL,JT_cons,List.drop_append]
   simp) h1 (by rw [Lib.size_eq]; omega)
  rw [ih,List.append_assoc]
  rfl
theorem words_join {ws : List ByteArray} (h : ∀ w ∈ ws,WordOK w) : wordsOf (joinS ws) = ws:=by
 cases ws with
 | nil=>exact words_nil rfl
 | cons w r=>
  have:=scan_all (joinS (w :: r)) r w 0 [] h (by rw [dZ,joinS_list]) rfl (Nat.zero_le _)
  rwa [List.nil_append] at this
theorem cut_words : ∀ (l : List UInt8),(stF false l = some false -> ∃ (z : List UInt8) (ws : List ByteArray),(∀ b ∈ z,plainB b.toNat) /\ (∀ w ∈ ws,WordOK w) /\ l = z ++ JT ws) /\ (stF true l = some false -> ∃ ws : List ByteArray,ws ≠ [] /\ (∀ w ∈ ws,WordOK w) /\ 32 :: l = JT ws)
 | []=>⟨fun _=>⟨[],[],fun _ h=>(by cases h),fun _ h=>(by cases h),rfl⟩,fun h=>(by cases h)⟩
 | b :: t=>by
  obtain ⟨ih1,ih2⟩:=cut_words t
  constructor
  ·intro h
   by_cases h32 : b.toNat = 32
   ·rw [stF,if_pos h32,if_neg (by decide)] at h
    obtain ⟨ws,-,h2,h3⟩:=ih2 h
    refine ⟨[],ws,fun _ h=>(by cases h),h2,?_⟩
    rw [List.nil_append,<- h3]
    congr 1
    exact UInt8.toNat_inj.1 (by rw [h32]; rfl)
   ·rw [stF,if_neg h32] at h
    by_cases hp : plainB b.toNat
    ·rw [if_pos hp] at h
     obtain ⟨z,ws,h1,h2,rfl⟩:=ih1 h
     refine ⟨b :: z,ws,fun x hx=>?_,h2,rfl⟩
     rcases List.mem_cons.1 hx with rfl | hx
     ·exact hp
     ·exact h1 x hx
    ·rw [if_neg hp] at h; cases h
  ·intro h
   by_cases h32 : b.toNat = 32
   ·rw [stF,if_pos h32] at h; cases h
   ·rw [stF,if_neg h32] at h
    by_cases hp : plainB b.toNat
    ·rw [if_pos hp] at h
     obtain ⟨z,ws,h1,h2,rfl⟩:=ih1 h
     refine ⟨⟨(b :: z).toArray⟩ :: ws,by simp,fun w hw=>?_,by rw [JT_cons]; rfl⟩
     rcases List.mem_cons.1 hw with rfl | hw
     ·refine ⟨fun x hx=>?_,by show (b :: z).length ≠ 0; simp⟩
      have hx' : x ∈ b :: z:=hx
      rcases List.mem_cons.1 hx' with rfl | hx'
      ·exact hp
      ·exact h1 x hx'
     ·exact h2 w hw
    ·rw [if_neg hp] at h; cases h
theorem part_words {s : ByteArray} (h : PartOK s) : ∃ ws,ws ≠ [] /\ (∀ w ∈ ws,WordOK w) /\ s = joinS ws:=by
 obtain ⟨ws,h1,h2,h3⟩:=(cut_words s.data.toList).2 h
 refine ⟨ws,h1,h2,bytes_eq ?_⟩
 rw [<- joinS_JT h1] at h3
 exact (List.cons.inj h3).2
theorem join_two {a b : List ByteArray} (ha : a ≠ []) (hb : b ≠ []) : joinS a ++ ⟨#[32]⟩ ++ joinS b = joinS (a ++ b):=by
 apply bytes_eq
 have h1:=joinS_JT ha
 have h2:=joinS_JT hb
 have h3:=joinS_JT (ws:=a ++ b) (by simp [ha])
 rw [JT_append,<- h1,<- h2] at h3
 have:=(List.cons.inj h3).2
 rw [this,ByteArray.data_append,Array.toList_append,ByteArray.data_append,Array.toList_append,List.append_assoc]
 rfl
end
end Go.Proofs.YteclineblddpbaaGreatDoorR
