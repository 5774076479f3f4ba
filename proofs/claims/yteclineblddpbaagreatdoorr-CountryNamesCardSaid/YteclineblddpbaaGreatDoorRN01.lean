import Derived.Test.YteclineblddpbaaGreatDoorRC01
import Derived.Test.YteclineblddpbaaGreatDoorRC40
import Derived.Test.YteclineblddpbaaGreatDoorRC41
set_option linter.all false
set_option maxRecDepth 100000
set_option maxHeartbeats 0
namespace Go.Proofs.YteclineblddpbaaGreatDoorR
section
theorem addLong_mem {l : ByteArray} : ∀ (rs : List Row) (acc : List ByteArray),l ∈ rs.foldl addLong acc -> l ∈ acc \/ ∃ r ∈ rs,r.long = l
 | [],acc,h=>.inl h
 | r :: rs,acc,h=>by
  rcases addLong_mem rs _ h with h | ⟨r',h1,h2⟩
  ·unfold addLong at h
   split at h
   ·exact .inl h
   ·rcases List.mem_append.1 h with h | h
    ·exact .inl h
    ·exact .inr ⟨r,List.mem_cons_self ..,(mS.1 h).symm⟩
  ·exact .inr ⟨r',List.mem_cons_of_mem _ h1,h2⟩
theorem longs_mem {x l : ByteArray} (h : l ∈ longsOf 5 x) : ∃ r ∈ table,r.kind = 5 /\ r.long = l:=by
 unfold longsOf at h
 rcases addLong_mem _ _ h with h | ⟨r,h1,h2⟩
 ·cases h
 ·obtain ⟨h3,h4⟩:=List.mem_filter.1 h1
  unfold keepL at h4
  simp only [Bool.and_eq_true,Bool.or_eq_true,decide_eq_true_eq] at h4
  exact ⟨r,h3,h4.1.resolve_left (by decide),h2⟩
theorem table_long5 : (table.all fun r=>decide (r.kind ≠ 5) || (clsB r.long 2 && (decide (r.long.size ≠ 0) && (r.long.data.toList.all fun b=>decide (plainB b.toNat))) && decide (longsOf 5 r.long = [r.long]))) = true:=by decide +kernel
theorem long5 {x l : ByteArray} (h : l ∈ longsOf 5 x) : clsB l 2 = true /\ WordOK l /\ longsOf 5 l = [l]:=by
 obtain ⟨r,h1,h2,rfl⟩:=longs_mem h
 have:=List.all_eq_true.1 table_long5 r h1
 simp only [Bool.or_eq_true,Bool.and_eq_true,decide_eq_true_eq] at this
 rcases this with h3 | ⟨⟨h3,h4,h5⟩,h6⟩
 ·exact absurd h2 h3
 ·exact ⟨h3,⟨plain_lit _ h5,h4⟩,h6⟩
theorem fix_mem (x : ByteArray) : fixW x = x \/ fixW x ∈ longsOf 5 x:=by
 unfold fixW
 cases longsOf 5 x with
 | nil=>exact .inl rfl
 | cons a l=>exact .inr (List.mem_cons_self ..)
theorem fix_one {l : ByteArray} (h : longsOf 5 l = [l]) : fixW l = l:=by unfold fixW; rw [h]; rfl
def sameP (kd : Int) (a b : ByteArray) : Bool:=decide (a = b) || (longsOf kd a).any fun x=>memB x (longsOf kd b)
theorem fix_ok {x : ByteArray} (hx : WordOK x) (hc : clsB x 2 = true) : WordOK (fixW x) /\ clsB (fixW x) 2 = true /\ fixW (fixW x) = fixW x /\ sameP 5 x (fixW x) = true:=by
 rcases fix_mem x with h | h
 ·rw [h]
  exact ⟨hx,hc,h,by unfold sameP; simp⟩
 ·obtain ⟨h1,h2,h3⟩:=long5 h
  refine ⟨h2,h1,fix_one h3,?_⟩
  unfold sameP
  rw [h3,Bool.or_eq_true]
  refine .inr (List.any_eq_true.2 ⟨_,h,?_⟩)
  unfold memB
  simp
theorem fixes_ok {ws : List ByteArray} (h : ∀ w ∈ ws,WordOK w) (hc : ∀ w ∈ ws,clsB w 2 = true) : (∀ w ∈ ws.map fixW,WordOK w) /\ (∀ w ∈ ws.map fixW,clsB w 2 = true) /\ (ws.map fixW).map fixW = ws.map fixW:=by
 refine ⟨fun w hw=>?_,fun w hw=>?_,?_⟩
 ·obtain ⟨x,hx,rfl⟩:=List.mem_map.1 hw
  exact (fix_ok (h x hx) (hc x hx)).1
 ·obtain ⟨x,hx,rfl⟩:=List.mem_map.1 hw
  exact (fix_ok (h x hx) (hc x hx)).2.1
 ·rw [List.map_map]
  exact List.map_congr_left fun x hx=>(fix_ok (h x hx) (hc x hx)).2.2.1
structure NameW (s : ByteArray) (ws : List ByteArray) : Prop where
 ne : ws ≠ []
 ok : ∀ w ∈ ws,WordOK w
 four : ws.length <= 4
 cls : ∀ w ∈ ws,clsB w 2 = true
 eq : s = joinS ws
theorem NameW.words {s : ByteArray} {ws : List ByteArray} (h : NameW s ws) : wordsOf s = ws:=by rw [h.eq]; exact words_join h.ok
theorem NameW.part {s : ByteArray} {ws : List ByteArray} (h : NameW s ws) : PartOK s:=by rw [h.eq]; exact join_ok (fun w hw=>(h.ok w hw).part) h.ne
theorem NameW.nameOk_ {s : ByteArray} {ws : List ByteArray} (h : NameW s ws) : nameOk s = true:=by
 unfold nameOk
 rw [h.words,h.part.folded]
 simp only [Bool.and_eq_true,decide_eq_true_eq,List.all_eq_true,true_and]
 exact ⟨⟨List.length_pos_iff.2 h.ne,h.four⟩,h.cls⟩
theorem nameOk_words {s : ByteArray} (h : nameOk s = true) : NameW s (wordsOf s):=by
 obtain ⟨h1,h2⟩:=name_ok h
 obtain ⟨ws,k1,k2,rfl⟩:=part_words (PartOK.of_folded h1 h2)
 have e:=words_join k2
 unfold nameOk at h
 rw [e] at h ⊢
 simp only [Bool.and_eq_true,decide_eq_true_eq,List.all_eq_true] at h
 exact ⟨k1,k2,h.1.2,h.2,rfl⟩
theorem nameP_of {s : ByteArray} (h : nameOk s = true) : nameP s = (joinS ((wordsOf s).map fixW),true):=by unfold nameP; rw [if_pos h]
theorem nameP_no {s : ByteArray} (h : nameOk s = false) : nameP s = (⟨#[]⟩,false):=by unfold nameP; rw [h]; rfl
theorem name_again {s : ByteArray} (h : nameOk s = true) : NameW (nameP s).1 ((wordsOf s).map fixW) /\ nameP (nameP s).1 = ((nameP s).1,true):=by
 have hw:=nameOk_words h
 obtain ⟨f1,f2,f3⟩:=fixes_ok hw.ok hw.cls
 have hn : NameW (nameP s).1 ((wordsOf s).map fixW):=by
  rw [nameP_of h]
  exact ⟨by simpa using hw.ne,f1,by simpa using hw.four,f2,rfl⟩
 refine ⟨hn,?_⟩
 rw [nameP_of hn.nameOk_,hn.words,f3,nameP_of h]
theorem name_both {s t : ByteArray} (h : nameOk (s ++ ⟨#[32]⟩ ++ t) = true) : nameOk s = true /\ nameOk t = true /\ (wordsOf s).length + (wordsOf t).length <= 4:=by
 have hw:=nameOk_words h
 have hp : stF true ((s ++ ⟨#[32]⟩ ++ t).data.toList) = some false:=hw.part
 rw [ByteArray.data_append,Array.toList_append,ByteArray.data_append,Array.toList_append,stF_append,stF_append] at hp
 have hs : PartOK s:=by
  unfold PartOK
  cases e : stF true s.data.toList with
  | none=>rw [e] at hp; cases hp
  | some q=>
   cases q with
   | false=>rfl
   | true=>rw [e] at hp; cases hp
 have ht : PartOK t:=by
  unfold PartOK at hs ⊢
  rw [hs] at hp
  exact hp
 obtain ⟨a,a1,a2,rfl⟩:=part_words hs
 obtain ⟨b,b1,b2,rfl⟩:=part_words ht
 have hab : ∀ w ∈ a ++ b,WordOK w:=fun w hw=>(List.mem_append.1 hw).elim (a2 w) (b2 w)
 have e:=hw.words
 rw [join_two a1 b1] at hw
 rw [words_join hab] at hw
 have l4:=hw.four
 rw [List.length_append] at l4
 rw [words_join a2,words_join b2]
 exact ⟨NameW.nameOk_ ⟨a1,a2,by omega,fun w h=>hw.cls w (List.mem_append_left _ h),rfl⟩,NameW.nameOk_ ⟨b1,b2,by omega,fun w h=>hw.cls w (List.mem_append_right _ h),rfl⟩,l4⟩
theorem name_join {s t : ByteArray} (hs : nameOk s = true) (ht : nameOk t = true) (h4 : (wordsOf s).length + (wordsOf t).length <= 4) : nameP (s ++ ⟨#[32]⟩ ++ t) = ((nameP s).1 ++ ⟨#[32]⟩ ++ (nameP t).1,true):=by
 have a:=nameOk_words hs
 have b:=nameOk_words ht
 have hab : ∀ w ∈ wordsOf s ++ wordsOf t,WordOK w:=fun w hw=>(List.mem_append.1 hw).elim (a.ok w) (b.ok w)
 have hn : NameW (s ++ ⟨#[32]⟩ ++ t) (wordsOf s ++ wordsOf t):=⟨by simp [a.ne],hab,by rw [List.length_append]; exact h4,fun w hw=>(List.mem_append.1 hw).elim (a.cls w) (b.cls w),by
  rw [<- join_two a.ne b.ne,<- a.eq,<- b.eq]⟩
 rw [nameP_of hn.nameOk_,hn.words,List.map_append,nameP_of hs,nameP_of ht,join_two (by simpa using a.ne) (by simpa using b.ne)]
end
section
open Go Go.RowKit Go.Maps
theorem same33 (kd : Int) (a b : ByteArray) (w : World) :
  Calls Tryz.prog 33 #[.int .u8 kd,.string a,.string b] w fun e w'=>e = .returned (.bool (sameP kd a b)) /\ Below w.heap.size w w':=by
 have hab:=tl_beq a b
 have hsm : Hid (sameP kd a b = (decide (a = b) || (longsOf kd a).any fun x=>memB x (longsOf kd b))):=Hd rfl
 have hlb:=Hd (longs_any kd b w)
 go_enter Tryz.func33,Tryz.ntmps33
 by_cases he : a = b
 ·have q : (a.toList == b.toList) = true:=by rw [hab]; exact decide_eq_true he
  have hy : Hid (sameP kd a b = true):=Hd (by rw [hsm.out,decide_eq_true he]; rfl)
  clear hab he hsm
  go_wp2_with fail
  go_ret
  exact ⟨by rw [hy.out]; rfl,Below.refl _ _⟩
 ·have q : (a.toList == b.toList) = false:=by rw [hab]; exact decide_eq_false he
  have hy : Hid (sameP kd a b = (longsOf kd a).any fun x=>memB x (longsOf kd b)):=Hd (by rw [hsm.out,decide_eq_false he]; rfl)
  clear hab he hsm
  go_wp2_with fail
  refine hlb.out.mono ?_
  rintro e W1 ⟨v1,rfl,ho1,hb1⟩
  clear hlb
  have hla:=Hd (longs_any kd a W1)
  have hlen : (longsOf kd a).length <= 40:=by
   have h : longsOf kd a = longsTo (table.filter (keepL kd a)) (table.filter (keepL kd a)).length:=by unfold longsTo longsOf; rw [List.take_length]
   rw [h]
   exact Nat.le_trans (longsTo_len _ _ (lQ _)) (Nat.le_trans (List.length_filter_le _ _) (by rw [table_len]; decide))
  have ht1:=Hd ho1.texts
  have hb1':=Hd hb1
  obtain ⟨A1,c1,rfl⟩:=ho1.form_
  clear ho1 hb1
  generalize longsOf kd b = lb at *
  go_wp2_with fail
  refine hla.out.mono ?_
  rintro e W2 ⟨v2,rfl,ho2,hb2⟩
  clear hla
  have ht2:=Hd (ht1.out.stays (Stays.of hb2))
  have hbb:=Hd (hb1'.out.trans (hb2.mono hb1'.out.size))
  obtain ⟨A2,c2,rfl⟩:=ho2.form_
  have ho2':=Hd ho2
  clear ho2 hb2 ht1 hb1'
  generalize longsOf kd a = la at *
  go_wp2_with fail
  go_loop [20] (fun iv=>∃ k : Nat,k <= la.length /\ iv = .int .i64 k /\ Hid (∀ i,i < k -> ∀ x,la[i]? = some x -> memB x lb = false)) (fun iv=>la.length - (intOf iv).toNat)
  case atStart=>exact ⟨0,by omega,rfl,Hd fun i hi=>absurd hi (by omega)⟩
  case round=>
   obtain ⟨k,hk,rfl,hall⟩:=hrel
   have n0 : (0 : Int) <= (k : Int):=by omega
   by_cases hlt : k < la.length
   ·have n1 : (k : Int) < (la.length : Int):=by omega
    obtain ⟨gl,c3,he,hg1,hg2,hc1,hc2⟩:=ho2'.out.ref (by omega)
    obtain ⟨rfl,-,rfl⟩:=Value.slice.inj he
    clear he
    have hx0:=Hd (List.getElem?_eq_getElem hlt)
    have x1:=own_cell ho2'.out k la[k] hx0.out
    generalize la[k] = x at *
    have hha:=Hd (has_any _ lb x W2 ht2.out)
    go_wp2_with fail
    refine hha.out.mono ?_
    rintro e w' ⟨rfl,rfl⟩
    clear hha
    cases hm : memB x lb with
    | true=>
     have hyes : Hid (sameP kd a b = true):=Hd (by rw [hy.out]; exact List.any_eq_true.2 ⟨x,List.mem_of_getElem? hx0.out,hm⟩)
     clear hm
     go_wp2_with fail
     go_ret
     exact ⟨by rw [hyes.out]; rfl,hbb.out⟩
    | false=>
     have hall' : Hid (∀ i,i < k + 1 -> ∀ x,la[i]? = some x -> memB x lb = false):=Hd fun i hi y hy'=>by
      rcases Nat.lt_or_ge i k with h | h
      ·exact hall.out i h y hy'
      ·obtain rfl : i = k:=by omega
       rw [hx0.out] at hy'
       cases hy'
       exact hm
     clear hm
     go_wp2_with fail
     go_round
     case rel=>exact ⟨k + 1,by omega,by go_num,hall'⟩
     case measure=>simp [intOf]; omega
   ·obtain rfl : k = la.length:=by omega
    have hno : Hid (sameP kd a b = false):=Hd (by
     rw [hy.out,List.any_eq_false]
     intro x hx
     obtain ⟨i,hi,rfl⟩:=List.mem_iff_getElem.1 hx
     rw [hall.out i hi _ (List.getElem?_eq_getElem hi)]
     decide)
    go_wp2_with fail
    go_ret
    exact ⟨by rw [hno.out]; rfl,hbb.out⟩
end
section
open Go Go.RowKit Go.Maps
theorem names10 (s t : ByteArray) (w : World) (hml : MaxL w) (h00 : 0 < w.heap.size) : Calls Tryz.prog 10 #[.string s,.string t] w fun e w'=>e = .returned (.bool true) /\ Below w.heap.size w w':=by
 have haw:=Hd (awake14 w hml h00)
 go_enter Tryz.func10,Tryz.ntmps10
 go_wp2_with fail
 refine haw.out.mono ?_
 rintro e W1 ⟨rfl,hb1⟩
 clear haw
 have hb1':=Hd hb1
 clear hb1
 by_cases hs : 300 < s.size
 ·have q1 : (300 : Int) < (s.size : Int):=by omega
  have q2 : decide ((s.size : Int) > 300) = true:=decide_eq_true (by omega)
  go_wp2_with fail
  go_ret
  exact ⟨rfl,hb1'.out⟩
 have q1 : ¬ (300 : Int) < (s.size : Int):=by omega
 have q2 : decide ((s.size : Int) > 300) = false:=decide_eq_false (by omega)
 by_cases ht : 300 < t.size
 ·have q3 : (300 : Int) < (t.size : Int):=by omega
  have q4 : decide ((t.size : Int) > 300) = true:=decide_eq_true (by omega)
  go_wp2_with fail
  go_ret
  exact ⟨rfl,hb1'.out⟩
 have q3 : ¬ (300 : Int) < (t.size : Int):=by omega
 have q4 : decide ((t.size : Int) > 300) = false:=decide_eq_false (by omega)
 have hs3 : s.size <= 300:=by omega
 have ht3 : t.size <= 300:=by omega
 clear hs ht
 have hn1:=Hd (name_of s W1 (by omega))
 go_wp2_with fail
 clear q1 q2 q3 q4
 refine hn1.out.mono ?_
 rintro e W2 ⟨rfl,hb2⟩
 clear hn1
 have hb2':=Hd (hb1'.out.trans (hb2.mono hb1'.out.size))
 clear hb2 hb1'
 have hn2:=Hd (name_of t W2 (by omega))
 go_wp2_with fail
 refine hn2.out.mono ?_
 rintro e W3 ⟨rfl,hb3⟩
 clear hn2
 have hb3':=Hd (hb2'.out.trans (hb3.mono hb2'.out.size))
 clear hb3 hb2'
 have hn3:=Hd (name_of (s ++ ⟨#[32]⟩ ++ t) W3 (by rw [ByteArray.size_append,ByteArray.size_append]; show s.size + 1 + t.size <= _; omega))
 have hz1 : (s ++ ⟨#[32]⟩).size = s.size + 1:=by rw [ByteArray.size_append]; rfl
 cases hns : nameOk s with
 | false=>
  have e1:=nameP_no hns
  have e3 : nameOk (s ++ ⟨#[32]⟩ ++ t) = false:=by
   cases h : nameOk (s ++ ⟨#[32]⟩ ++ t) with
   | false=>rfl
   | true=>
    have:=(name_both h).1
    rw [hns] at this
    cases this
  have e4:=nameP_no e3
  rw [e1]
  rw [e4] at hn3
  clear e1 e3 e4 hns
  generalize nameP t = pt at *
  obtain ⟨b,was⟩:=pt
  go_wp2_with fail
  refine hn3.out.mono ?_
  rintro e W4 ⟨rfl,hb4⟩
  have hb4':=Hd (hb3'.out.trans (hb4.mono hb3'.out.size))
  clear hn3 hb4
  go_wp2_with fail
  go_ret
  exact ⟨rfl,hb4'.out⟩
 | true=>
  obtain ⟨hag,hag2⟩:=name_again hns
  have hw:=nameOk_words hns
  have h4:=hw.four
  have e1:=nameP_of hns
  obtain ⟨a,ha⟩ : ∃ a,a = (nameP s).1:=⟨_,rfl⟩
  have ea : nameP s = (a,true):=by rw [ha,e1]
  rw [<- ha] at hag hag2
  have hws:=hag.words
  have hsz : a.size <= 2000:=by
   have h1:=joinS_size 320 ((wordsOf s).map fixW) (fun x hx=>by
    obtain ⟨y,hy,rfl⟩:=List.mem_map.1 hx
    have:=fixW_size y
    have:=wordsOf_size hy
    omega)
   rw [<- hag.eq,List.length_map] at h1
   have : (wordsOf s).length * (320 + 1) <= 4 * (320 + 1):=Nat.mul_le_mul_right _ h4
   omega
  have hsame : Hid (∀ x ∈ wordsOf s,sameP 5 x (fixW x) = true):=Hd fun x hx=>(fix_ok (hw.ok x hx) (hw.cls x hx)).2.2.2
  have hboth:=Hd (fun h : nameOk (s ++ ⟨#[32]⟩ ++ t) = true=>(name_both h).2)
  have hjoin:=Hd (fun (h1 : nameOk t = true) h2=>name_join hns h1 h2)
  rw [ea] at hjoin ⊢
  obtain ⟨ws,hws0⟩ : ∃ ws,ws = wordsOf s:=⟨_,rfl⟩
  have hwd:=Hd (fun W=>words_any s W (by omega))
  have hwa:=Hd (fun W=>words_any a W (by omega))
  have hna:=Hd (fun W=>name_of a W (by omega))
  rw [hag2] at hna
  rw [hws] at hwa
  rw [<- hws0] at hwd hwa hsame hboth hjoin h4
  clear hag hag2 hw e1 hws hws0 ha ea hns
  have hl0 : ws.length <= 4:=h4
  clear h4
  generalize hP3 : nameP (s ++ ⟨#[32]⟩ ++ t) = p3 at *
  replace hP3:=Hd hP3
  obtain ⟨both,all⟩:=p3
  go_wp2_with fail
  refine hn3.out.mono ?_
  rintro e W4 ⟨rfl,hb4⟩
  have hb4':=Hd (hb3'.out.trans (hb4.mono hb3'.out.size))
  clear hn3 hb4 hb3'
  have hna4:=Hd (hna.out W4)
  go_wp2_with fail
  refine hna4.out.mono ?_
  rintro e W5 ⟨rfl,hb5⟩
  have hb5':=Hd (hb4'.out.trans (hb5.mono hb4'.out.size))
  clear hna hna4 hb5 hb4'
  have hw5:=Hd (hwd.out W5)
  go_wp2_with fail
  refine hw5.out.mono ?_
  rintro e W6 ⟨v6,rfl,ho6,hb6⟩
  have hb6':=Hd (hb5'.out.trans (hb6.mono hb5'.out.size))
  obtain ⟨A6,c6,rfl⟩:=ho6.form_
  have ho6':=Hd (ho6.base strIn_inner hb5'.out.size)
  clear ho6 hb6 hw5 hb5'
  have hw6:=Hd (hwa.out W6)
  go_wp2_with fail
  refine hw6.out.mono ?_
  rintro e W7 ⟨v7,rfl,ho7,hb7⟩
  have hb7':=Hd (hb6'.out.trans (hb7.mono hb6'.out.size))
  obtain ⟨A7,c7,hv7⟩:=ho7.form_
  rw [List.length_map] at hv7
  subst hv7
  have ho7':=Hd (ho7.base strIn_inner hb6'.out.size)
  have ho67:=Hd (ho6'.out.keep strIn_inner (Keeps.of_below hb7 _))
  clear ho7 hb7 hw6 hb6' ho6' hwa hwd
  go_wp2_with fail
  go_loopw [15] (fun iv wr=>∃ k : Nat,k <= ws.length /\ iv = .int .i64 k /\ Hid (Below W7.heap.size W7 wr)) (fun iv _=>ws.length - (intOf iv).toNat)
  case atStart=>exact ⟨0,by omega,rfl,Hd (Below.refl _ _)⟩
  case round=>
   obtain ⟨k,hk,rfl,hbr⟩:=hrel
   rename World=>wr
   have n0 : (0 : Int) <= (k : Int):=by omega
   by_cases hlt : k < ws.length
   ·have n1 : (k : Int) < (ws.length : Int):=by omega
    obtain ⟨g6,c6',he6,hg61,hg62,-,-⟩:=OwnStrs.ref ho67.out (by omega)
    obtain ⟨rfl,-,rfl⟩:=Value.slice.inj he6
    clear he6
    obtain ⟨g7,c7',he7,hg71,hg72,-,-⟩:=OwnStrs.ref ho7'.out (by rw [List.length_map]; omega)
    obtain ⟨rfl,-,rfl⟩:=Value.slice.inj he7
    clear he7
    have hx0:=Hd (List.getElem?_eq_getElem hlt)
    have x6:=(hbr.out.cell (p:=⟨g6,k,none⟩) hg62).trans (own_cell ho67.out k ws[k] hx0.out)
    have x7:=(hbr.out.cell (p:=⟨g7,k,none⟩) hg72).trans (own_cell ho7'.out k (fixW ws[k]) (by rw [List.getElem?_map,hx0.out]; rfl))
    have hsk:=hsame.out ws[k] (List.getElem_mem hlt)
    generalize ws[k] = x at *
    generalize fixW x = y at *
    have l6 : g6 < wr.heap.size:=Nat.lt_of_lt_of_le hg62 hbr.out.size
    have l7 : g7 < wr.heap.size:=Nat.lt_of_lt_of_le hg72 hbr.out.size
    have X6:=fun (u : Ups wr)=>u.cellAt x6 l6
    have X7:=fun (u : Ups wr)=>u.cellAt x7 l7
    have hcall:=Hd (fun (u : Ups wr)=>same33 5 x y u.wld)
    rw [hsk] at hcall
    have hxy:=tl_beq x y
    clear hsk x6 x7
    by_cases he : x = y
    ·have q : (x.toList == y.toList) = true:=by rw [hxy]; exact decide_eq_true he
     replace he:=Hd he
     clear hxy
     go_upto_region 17 with fail
     refine wp_region_ups (P:=Tryz.prog) rfl (by kernel_rfl) ?_
     repeat (go_big_quiet_step (first | (go_at_call 33; exact calls_ups (hcall.out _))))
     refine wpQuiet_nil ?_
     rintro _ ⟨u,rfl⟩
     have hb9:=Hd (hbr.out.trans (u.up.mono hbr.out.size))
     clear X6 X7 hcall
     generalize u.wld = w9 at *
     go_wp2_with fail
     go_roundw
     case rel=>exact ⟨k + 1,by omega,by go_num,hb9⟩
     case measure=>simp [intOf]; omega
    ·have q : (x.toList == y.toList) = false:=by rw [hxy]; exact decide_eq_false he
     replace he:=Hd he
     clear hxy
     go_upto_region 17 with fail
     refine wp_region_ups (P:=Tryz.prog) rfl (by kernel_rfl) ?_
     repeat (go_big_quiet_step (first | (go_at_call 33; exact calls_ups (hcall.out _))))
     refine wpQuiet_nil ?_
     rintro _ ⟨u,rfl⟩
     have hb9:=Hd (hbr.out.trans (u.up.mono hbr.out.size))
     clear X6 X7 hcall
     generalize u.wld = w9 at *
     go_wp2_with fail
     go_roundw
     case rel=>exact ⟨k + 1,by omega,by go_num,hb9⟩
     case measure=>simp [intOf]; omega
   ·obtain rfl : k = ws.length:=by omega
    have hb8:=Hd (hb7'.out.trans (hbr.out.mono hb7'.out.size))
    clear hbr ho67 ho7' hsame hlt hk
    cases hnt : nameOk t with
    | false=>
     have et:=nameP_no hnt
     have hno : nameOk (s ++ ⟨#[32]⟩ ++ t) = false:=by
      cases h : nameOk (s ++ ⟨#[32]⟩ ++ t) with
      | false=>rfl
      | true=>
       have:=(hboth.out h).1
       rw [hnt] at this
       cases this
     have ep:=hP3.out
     rw [nameP_no hno] at ep
     obtain ⟨rfl,rfl⟩:=Prod.mk.inj ep
     rw [et]
     clear et hno ep hnt hboth hjoin hP3
     go_wp2_with fail
     go_ret
     exact ⟨rfl,hb8.out⟩
    | true=>
     obtain ⟨b,hbq⟩ : ∃ b,b = (nameP t).1:=⟨_,rfl⟩
     have et : nameP t = (b,true):=by rw [hbq,nameP_of hnt]
     have hwt:=Hd (fun W=>words_any t W (by omega))
     have ht4 : (wordsOf t).length <= 4:=(nameOk_words hnt).four
     have hbsz : b.size <= 2000:=by
      have h1:=joinS_size 320 ((wordsOf t).map fixW) (fun x hx=>by
       obtain ⟨y,hy,rfl⟩:=List.mem_map.1 hx
       have:=fixW_size y
       have:=wordsOf_size hy
       omega)
      have h2 : b = joinS ((wordsOf t).map fixW):=by rw [hbq,nameP_of hnt]
      rw [<- h2,List.length_map] at h1
      have : (wordsOf t).length * (320 + 1) <= 4 * (320 + 1):=Nat.mul_le_mul_right _ ht4
      omega
     have hwt8:=Hd (hwt.out wr)
     rw [et] at hjoin ⊢
     clear hbq et
     replace hnt:=Hd hnt
     go_wp2_with fail
     refine hwt8.out.mono ?_
     rintro e W9 ⟨v9,rfl,ho9,hb9⟩
     have hb9':=Hd (hb8.out.trans (hb9.mono hb8.out.size))
     obtain ⟨A9,c9,rfl⟩:=ho9.form_
     clear ho9 hb9 hwt hwt8 hb8
     generalize hwl : (wordsOf t).length = m at *
     replace hwl:=Hd hwl
     by_cases hsum : ws.length + m <= 4
     ·have z1 : ¬ (4 : Int) < (ws.length : Int) + (m : Int):=by omega
      have z2 : decide ((ws.length : Int) + (m : Int) > 4) = false:=decide_eq_false (by omega)
      have ep:=hjoin.out hnt.out hsum
      obtain ⟨rfl,rfl⟩:=Prod.mk.inj ep
      have za : (a ++ ⟨#[32]⟩).size = a.size + 1:=by rw [ByteArray.size_append]; rfl
      clear ep hboth hjoin hP3 hsum
      go_wp2_with fail
      go_ret
      exact ⟨by simp,hb9'.out⟩
     ·have z1 : (4 : Int) < (ws.length : Int) + (m : Int):=by omega
      have z2 : decide ((ws.length : Int) + (m : Int) > 4) = true:=decide_eq_true (by omega)
      have hno : nameOk (s ++ ⟨#[32]⟩ ++ t) = false:=by
       cases h : nameOk (s ++ ⟨#[32]⟩ ++ t) with
       | false=>rfl
       | true=>exact absurd (hboth.out h).2 hsum
      have ep:=hP3.out
      rw [nameP_no hno] at ep
      obtain ⟨rfl,rfl⟩:=Prod.mk.inj ep
      clear hno ep hboth hjoin hP3 hsum
      go_wp2_with fail
      go_ret
      exact ⟨rfl,hb9'.out⟩
end
end Go.Proofs.YteclineblddpbaaGreatDoorR
