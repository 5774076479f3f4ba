import Derived.Test.YtggimnndflkjkaaGreatDoorR01
import Derived.Test.YtggimnndflkjkaaGreatDoorR06
import Derived.Test.YtggimnndflkjkaaGreatDoorR10
import Derived.WideKeyEntry
import Derived.Test.YtggimnndflkjkaaGreatDoorProg
import Derived.KernelRfl
set_option linter.all false
set_option maxRecDepth 100000
set_option maxHeartbeats 0
namespace Go.Proofs.YtggimnndflkjkaaGreatDoor
section
open Go.RowKit
theorem zuT (kd : Int) (s : ByteArray) (w : World) : Calls Tryz.prog 117 #[.int .u8 kd,.string s] w fun e w'=>e = .returned (.bool (zcg s (zaQ kd s))) /\ Below w.heap.size w w':=by
 have hl:=Hd (zlc kd s w);go_enter Tryz.func117,Tryz.ntmps117;go_wp2_with fail;refine hl.out.mono ?_;rintro e w2 ⟨v,rfl,hown,hb⟩;have hc:=Hd (zbE v _ s w2 hown.texts);obtain ⟨A,c,rfl⟩:=hown.form_;clear hl hown;go_wp2_with fail;refine hc.out.mono ?_;rintro e w3 ⟨rfl,rfl⟩;clear hc;go_wp2;go_ret;exact ⟨rfl,hb⟩
theorem zzC (n : Int) : zpC n = (n % 2 == 1):=rfl
theorem zyr (n : Int) : (!zpC n) = (n % 2 == 0):=by
 unfold zpC;rcases Int.emod_two_eq n with h | h <;> rw [h] <;> rfl
theorem zvP (low high parity : Int) (w : World) (h0 : 0 <= low) (h1 : high <= 1000000) : Calls Tryz.prog 120 #[.int .i64 low,.int .i64 high,.int .u8 parity] w fun e w'=>e = .returned (.bool (zhJ low high parity)) /\ w' = w:=by
 have hd : Hid (zhJ low high parity = if high < low then false else if parity = 0 then true else if parity = 1 then decide (low < high) || zpC low else if parity = 2 then decide (low < high) || !zpC low else false):=Hd rfl;by_cases a : high < low
 ·rw [if_pos a] at hd
  have d1 : decide (high < low) = true:=decide_eq_true a;clear a;go_enter Tryz.func120,Tryz.ntmps120;go_wp2;go_ret;exact ⟨zf hd.out.symm,rfl⟩
 rw [if_neg a] at hd;have ho:=zug low h0 (by omega);have d1 : decide (high < low) = false:=decide_eq_false a;clear a;by_cases p0 : parity = 0
 ·subst p0
  rw [if_pos rfl] at hd;clear ho;go_enter Tryz.func120,Tryz.ntmps120;go_wp2;go_ret;exact ⟨zf hd.out.symm,rfl⟩
 rw [if_neg p0] at hd;have e0 : (parity == 0) = false:=by simpa using p0
 by_cases p1 : parity = 1
 ·subst p1
  rw [if_pos rfl,zzC,<- ho] at hd;clear ho p0 e0
  cases d2 : decide (low < high) with
  | true=>
   rw [d2] at hd;go_enter Tryz.func120,Tryz.ntmps120;go_wp2;go_ret;exact ⟨zf (by rw [hd.out]; first | done | simp),rfl⟩
  | false=>
   rw [d2] at hd;go_enter Tryz.func120,Tryz.ntmps120;go_wp2;go_ret;exact ⟨zf (by rw [hd.out]; first | done | simp),rfl⟩
 rw [if_neg p1] at hd;have e1 : (parity == 1) = false:=by simpa using p1
 by_cases p2 : parity = 2
 ·subst p2
  rw [if_pos rfl,zyr,<- ho] at hd;clear ho p0 e0 p1 e1
  cases d2 : decide (low < high) with
  | true=>
   rw [d2] at hd;go_enter Tryz.func120,Tryz.ntmps120;go_wp2;go_ret;exact ⟨zf (by rw [hd.out]; first | done | simp),rfl⟩
  | false=>
   rw [d2] at hd;go_enter Tryz.func120,Tryz.ntmps120;go_wp2;go_ret;exact ⟨zf (by rw [hd.out]; first | done | simp),rfl⟩
 rw [if_neg p2] at hd;have e2 : (parity == 2) = false:=by simpa using p2
 clear ho p0 p1 p2;go_enter Tryz.func120,Tryz.ntmps120;go_wp2;go_ret;exact ⟨zf hd.out.symm,rfl⟩
theorem zyG (a b : zj) (w : World) (ha : 0 <= a.low /\ a.high <= 1000000) (hb : 0 <= b.low /\ b.high <= 1000000) : Calls Tryz.prog 121 #[.agg (zaV a),.agg (zaV b)] w fun e w'=>e = .returned (.bool (zle a b)) /\ Below w.heap.size w w':=by
 have hd : Hid (zle a b = if a.parity ≠ b.parity /\ a.parity ≠ 0 /\ b.parity ≠ 0 then false else zhJ (max a.low b.low) (min a.high b.high) (max a.parity b.parity)):=Hd rfl;have hs:=Hd (fun (W : World)=>zvP (max a.low b.low) (min a.high b.high) (max a.parity b.parity) W (by omega) (by omega));have hbw : Below w.heap.size w ((w.alloc (.cells (zaV a) 72)).alloc (.cells (zaV b) 72)):=((Below.refl _ _).alloc (lQ _) _).alloc (by simp) _;generalize zle a b = r at *;generalize zhJ (max a.low b.low) (min a.high b.high) (max a.parity b.parity) = s at *;obtain ⟨at_,as_,alo,ahi,apa,aco,aro⟩:=a;obtain ⟨bt_,bs_,blo,bhi,bpa,bco,bro⟩:=b;simp only at hd hs ha hb;unfold zaV at *;by_cases h1 : apa = bpa
 ·subst h1
  rw [if_neg (fun h=>h.1 rfl)] at hd;have b1 : (apa != apa) = false:=by simp
  rw [Int.max_self] at hs;go_enter Tryz.func121,Tryz.ntmps121;go_wp2_with fail;refine (hs.out _).mono ?_;rintro e w2 ⟨rfl,rfl⟩;go_wp2;go_ret;exact ⟨zf hd.out.symm,hbw⟩
 have b1 : (apa != bpa) = true:=by simpa using h1
 by_cases h2 : apa = 0
 ·rw [if_neg (fun h=>h.2.1 h2)] at hd
  have b2 : (apa != 0) = false:=by simpa using h2
  clear h1 h2;go_enter Tryz.func121,Tryz.ntmps121;go_wp2_with fail;refine (hs.out _).mono ?_;rintro e w2 ⟨rfl,rfl⟩;go_wp2;go_ret;exact ⟨zf hd.out.symm,hbw⟩
 have b2 : (apa != 0) = true:=by simpa using h2
 by_cases h3 : bpa = 0
 ·rw [if_neg (fun h=>h.2.2 h3)] at hd
  have b3 : (bpa != 0) = false:=by simpa using h3
  clear h1 h2 h3;go_enter Tryz.func121,Tryz.ntmps121;go_wp2_with fail;refine (hs.out _).mono ?_;rintro e w2 ⟨rfl,rfl⟩;go_wp2;go_ret;exact ⟨zf hd.out.symm,hbw⟩
 have b3 : (bpa != 0) = true:=by simpa using h3
 rw [if_pos ⟨h1,h2,h3⟩] at hd;clear h1 h2 h3 hs;go_enter Tryz.func121,Tryz.ntmps121;go_wp2;go_ret;exact ⟨zf hd.out.symm,hbw⟩
def zaZ (p : zh) (c : Int) : Bool:=
 if p.street = 0 then decide (p.number = 0) && decide (p.letter.size = 0) && decide (p.unit.size = 0) && zcn p.box
 else if !zcn p.number || decide (p.box ≠ 0) then false
 else if decide (p.letter.size ≠ 0) && (!zbW p.letter || decide (c = 1)) then false
 else decide (p.unit.size = 0) || (decide (c ≠ 3) && zaF p.unit 7)
theorem zcc {s : ByteArray} (h : s.size = 0) : s.toList.isEmpty = true:=by rw [zaL]; exact decide_eq_true h
theorem zcS {s : ByteArray} (h : s.size ≠ 0) : s.toList.isEmpty = false:=by rw [zaL]; exact decide_eq_false h
theorem zqu {s : ByteArray} (h1 : s.size = 1) (hlt : 0 < s.size) : zbW s = (decide ((65 : Int) <= ((s[0]'hlt).toNat : Int)) && decide (((s[0]'hlt).toNat : Int) <= (90 : Int))):=by
 have hb : zU s 0 = (s[0]'hlt).toNat:=by unfold zU; rw [dif_pos hlt]
 unfold zbW;rw [decide_eq_true h1,hb];rfl
theorem zqk (p : zh) (c : Int) (w : World) (hu : p.unit.size <= 1000000) : Calls Tryz.prog 122 #[.agg (zaz p),.int .u8 c] w fun e w'=>e = .returned (.bool (zaZ p c)) /\ Below w.heap.size w w':=by
 have hid:=Hd ziO;have hcl:=Hd (fun W=>zdy p.unit W hu)
 have hd : Hid (zaZ p c = if p.street = 0 then decide (p.number = 0) && decide (p.letter.size = 0) && decide (p.unit.size = 0) && zcn p.box
  else if !zcn p.number || decide (p.box ≠ 0) then false
  else if decide (p.letter.size ≠ 0) && (!zbW p.letter || decide (c = 1)) then false
  else decide (p.unit.size = 0) || (decide (c ≠ 3) && zaF p.unit 7)):=Hd rfl
 have hb1 : Below w.heap.size w (w.alloc (.cells (zaz p) 33)):=(Below.refl _ _).alloc (lQ _) _;have hq:=Hd (zmm p.unit 7 (by omega));generalize zaF p.unit 7 = cb at *;generalize zdh p.unit = cls at *;generalize zaZ p c = r at *;obtain ⟨id,town,street,number,letter,unit,box,seq⟩:=p;simp only at hcl hd hu;unfold zaz at *;by_cases h0 : street = 0
 ·subst h0
  rw [if_pos rfl] at hd;by_cases h1 : number = 0
  ·subst h1
   by_cases h2 : letter.size = 0
   ·have q2:=zcc h2
    by_cases h3 : unit.size = 0
    ·have q3:=zcc h3
     rw [decide_eq_true h2,decide_eq_true h3] at hd;clear h2 h3;go_enter Tryz.func122,Tryz.ntmps122;go_wp2_with fail;refine (hid.out _ _).mono ?_;rintro e w2 ⟨rfl,rfl⟩;go_wp2;go_ret;exact ⟨zf (by rw [hd.out]; first | done | simp),hb1⟩
    ·have q3:=zcS h3
     rw [decide_eq_false h3] at hd;clear h2 h3;go_enter Tryz.func122,Tryz.ntmps122;go_wp2;go_ret;exact ⟨zf (by rw [hd.out]; first | done | simp),hb1⟩
   ·have q2:=zcS h2
    rw [decide_eq_false h2] at hd;clear h2;go_enter Tryz.func122,Tryz.ntmps122;go_wp2;go_ret;exact ⟨zf (by rw [hd.out]; first | done | simp),hb1⟩
  ·have q1 : (number == 0) = false:=by simpa using h1
   rw [decide_eq_false h1] at hd;clear h1;go_enter Tryz.func122,Tryz.ntmps122;go_wp2;go_ret;exact ⟨zf (by rw [hd.out]; first | done | simp),hb1⟩
 have q0 : (street == 0) = false:=by simpa using h0
 rw [if_neg h0] at hd;clear h0;go_enter Tryz.func122,Tryz.ntmps122;go_wp2_with fail;refine (hid.out _ _).mono ?_;rintro e w2 ⟨rfl,rfl⟩
 cases h1 : zcn number with
 | false=>
  rw [h1] at hd;clear h1;go_wp2;go_ret;exact ⟨zf (by rw [hd.out]; first | done | simp),hb1⟩
 | true=>
 rw [h1] at hd;clear h1;by_cases h2 : box = 0
 rotate_left
 ·have q1 : (box != 0) = true:=by simpa using h2
  rw [decide_eq_true h2] at hd;clear h2;go_wp2;go_ret;exact ⟨zf (by rw [hd.out]; first | done | simp),hb1⟩
 subst h2;rw [if_neg (by simp)] at hd;by_cases h3 : letter.size = 0
 ·have q3:=zcc h3
  rw [if_neg (by simp [h3])] at hd;clear h3;by_cases h4 : unit.size = 0
  ·have q4:=zcc h4
   rw [decide_eq_true h4] at hd;clear h4;go_wp2;go_ret;exact ⟨zf (by rw [hd.out]; first | done | simp),hb1⟩
  ·have q4:=zcS h4
   rw [decide_eq_false h4] at hd;clear h4;by_cases h5 : c = 3
   ·have q5 : (c != 3) = false:=by simpa using h5
    rw [decide_eq_false (by simpa using h5)] at hd;clear h5;go_wp2;go_ret;exact ⟨zf (by rw [hd.out]; first | done | simp),hb1⟩
   ·have q5 : (c != 3) = true:=by simpa using h5
    rw [decide_eq_true h5] at hd;clear h5;go_wp2_with fail;refine (hcl.out _).mono ?_;rintro e w2 ⟨rfl,hb2⟩;have hend:=hb1.trans (hb2.mono hb1.size);have q:=hq.out;simp only [Nat.reducePow,Int.cast_ofNat_Int] at q;go_wp2;go_ret;exact ⟨zf (by rw [hd.out]; first | done | simp),hend⟩
 have q3:=zcS h3;by_cases h5 : letter.size = 1
 rotate_left
 ·have q5 : ((letter.size : Int) == 1) = false:=beq_eq_false_iff_ne.2 (by omega)
  have hl : zbW letter = false:=by unfold zbW; rw [decide_eq_false h5]; rfl
  rw [hl,if_pos (by simp [h3])] at hd;clear h3 h5;go_wp2;go_ret;exact ⟨zf (by rw [hd.out]; first | done | simp),hb1⟩
 have hlt : 0 < letter.size:=by omega
 have q5 : ((letter.size : Int) == 1) = true:=by simp [h5]
 have hl:=zqu h5 hlt;rw [hl] at hd;clear hl
 cases b1 : decide ((65 : Int) <= ((letter[0]'hlt).toNat : Int)) with
 | false=>
  rw [b1,if_pos (by simp [h3])] at hd;clear h3 h5;go_wp2;go_ret;exact ⟨zf (by rw [hd.out]; first | done | simp),hb1⟩
 | true=>
 cases b2 : decide (((letter[0]'hlt).toNat : Int) <= (90 : Int)) with
 | false=>
  rw [b1,b2,if_pos (by simp [h3])] at hd;clear h3 h5;go_wp2;go_ret;exact ⟨zf (by rw [hd.out]; first | done | simp),hb1⟩
 | true=>
 by_cases h6 : c = 1
 ·have q6 : (c == 1) = true:=by simp [h6]
  rw [b1,b2,if_pos (by simp [h3,h6])] at hd;clear h3 h5 h6;go_wp2;go_ret;exact ⟨zf (by rw [hd.out]; first | done | simp),hb1⟩
 ·have q6 : (c == 1) = false:=by simpa using h6
  rw [b1,b2,if_neg (by simp [h6])] at hd;clear h3 h5 h6;by_cases h4 : unit.size = 0
  ·have q4:=zcc h4
   rw [decide_eq_true h4] at hd;clear h4;go_wp2;go_ret;exact ⟨zf (by rw [hd.out]; first | done | simp),hb1⟩
  ·have q4:=zcS h4
   rw [decide_eq_false h4] at hd;clear h4;by_cases h5 : c = 3
   ·have q5 : (c != 3) = false:=by simpa using h5
    rw [decide_eq_false (by simpa using h5)] at hd;clear h5;go_wp2;go_ret;exact ⟨zf (by rw [hd.out]; first | done | simp),hb1⟩
   ·have q5 : (c != 3) = true:=by simpa using h5
    rw [decide_eq_true h5] at hd;clear h5;go_wp2_with fail;refine (hcl.out _).mono ?_;rintro e w2 ⟨rfl,hb2⟩;have hend:=hb1.trans (hb2.mono hb1.size);have q:=hq.out;simp only [Nat.reducePow,Int.cast_ofNat_Int] at q;go_wp2;go_ret;exact ⟨zf (by rw [hd.out]; first | done | simp),hend⟩
def zbJ (s : ByteArray) : Bool:=zaF s 2 && !zaF s 6 && (decide ((zaQ 5 s).length = 0) || zcg s (zaQ 5 s))
theorem zsU (s : ByteArray) (w : World) (hs : s.size <= 1000000) : Calls Tryz.prog 185 #[.string s] w fun e w'=>e = .returned (.bool (zbJ s)) /\ Below w.heap.size w w':=by
 have hcl:=Hd (zdy s w hs);have hd : Hid (zbJ s = (zaF s 2 && !zaF s 6 && (decide ((zaQ 5 s).length = 0) || zcg s (zaQ 5 s)))):=Hd rfl;have q2:=Hd (zjj s 2 (by omega));have q6:=Hd (zmm s 6 (by omega));have hl:=Hd (zlc 5 s);generalize zbJ s = r at *;generalize zaF s 2 = c2 at *;generalize zaF s 6 = c6 at *;generalize zdh s = cls at *;go_enter Tryz.func185,Tryz.ntmps185;go_wp2_with fail;refine hcl.out.mono ?_;rintro e w2 ⟨rfl,hb2⟩;have r2:=q2.out;have r6:=q6.out;simp only [Nat.reducePow,Int.cast_ofNat_Int] at r2 r6;clear q2 q6 hcl
 cases c2 with
 | false=>
  go_wp2;go_ret;exact ⟨zf (by rw [hd.out]; rfl),hb2⟩
 | true=>
 cases c6 with
 | true=>
  go_wp2;go_ret;exact ⟨zf (by rw [hd.out]; rfl),hb2⟩
 | false=>
 go_wp2_with fail;refine (hl.out _).mono ?_;rintro e w3 ⟨v,rfl,hown,hb3⟩;have hend:=hb2.trans (hb3.mono hb2.size);have hc:=Hd (zbE v _ s w3 hown.texts);obtain ⟨A,c,rfl⟩:=hown.form_;clear hl hown hb2 hb3;generalize zcg s (zaQ 5 s) = m at *;generalize (zaQ 5 s).length = n at *;by_cases h0 : n = 0
 ·have e0 : ((n : Int) == 0) = true:=by simp [h0]
  rw [decide_eq_true h0] at hd;clear h0;go_wp2;go_ret;exact ⟨zf (by rw [hd.out]; first | done | simp),hend⟩
 ·have e0 : ((n : Int) == 0) = false:=beq_eq_false_iff_ne.2 (by omega)
  rw [decide_eq_false h0] at hd;clear h0;go_wp2_with fail;refine hc.out.mono ?_;rintro e w4 ⟨rfl,rfl⟩;go_wp2;go_ret;exact ⟨zf (by rw [hd.out]; first | done | simp),hend⟩
theorem zqE (s : ByteArray) (w : World) (hs : s.size <= 1000000) : Calls Tryz.prog 184 #[.string s] w fun e w'=>e = .returned (.bool (!zbJ s)) /\ Below w.heap.size w w':=by
 have h:=Hd (zsU s w hs);go_enter Tryz.func184,Tryz.ntmps184;go_wp2_with fail;refine h.out.mono ?_;rintro e w2 ⟨rfl,hb2⟩;go_wp2;go_ret;exact ⟨rfl,hb2⟩
theorem zql (v : Value) (l : List ByteArray) (w : World) (h : zan w v l) (hs : ∀ s ∈ l,s.size <= 1000000) : Calls Tryz.prog 215 #[v,.func (.func 184) #[] #[]] w fun e w'=>∃ i : Int,e = .returned (.int .i64 i) /\ decide (0 <= i) = !l.all zbJ /\ Below w.heap.size w w':=by
 obtain ⟨A,c,rfl,hn,hc,hA⟩:=h;unfold maxLen at hc;have hA':=Hd hA;have hs':=Hd hs;clear hA hs;go_enter Tryz.func215,Tryz.ntmps215;go_wp2
 go_loopw [8] (fun iv wr=>∃ k : Nat,k <= l.length /\ iv = .int .i64 k /\ Below w.heap.size w wr /\ Hid (l.all zbJ = (l.drop k).all zbJ)) (fun iv _=>l.length - (intOf iv).toNat)
 case atStart=>exact ⟨0,by omega,rfl,Below.refl _ _,Hd rfl⟩
 case round=>
  obtain ⟨k,hk,rfl,hbw,hall⟩:=hrel;rename World=>wr;have n0 : (0 : Int) <= (k : Int):=by omega
  by_cases hlt : k < l.length
  ·have n1 : (k : Int) < (l.length : Int):=by omega
   obtain ⟨b,off,rfl,hb,hi⟩:=hA'.out (by omega);have g:=(hbw.cell (p:=⟨b,off + k,none⟩) hb).trans (hi k hlt).1;have hdr:=Hd (zaI l ByteArray.empty k hlt);have hsz:=hs'.out (l.getD k ByteArray.empty) (by rw [zD l _ k hlt]; exact List.getElem_mem hlt);clear hi;generalize l.getD k ByteArray.empty = x at g hdr hsz;have hcon:=Hd (zqE x wr hsz);go_wp2_with fail;refine hcon.out.mono ?_;rintro e w2 ⟨rfl,hb2⟩;have hend:=hbw.trans (hb2.mono hbw.size);clear hcon
   cases hx : zbJ x with
   | false=>
    have hfin : Hid (l.all zbJ = false):=Hd (by rw [hall.out,hdr.out,List.all_cons,hx]; rfl);clear hx;go_wp2;go_ret;exact ⟨k,rfl,by rw [hfin.out,decide_eq_true n0]; rfl,hend⟩
   | true=>
    have hall' : Hid (l.all zbJ = (l.drop (k + 1)).all zbJ):=Hd (by rw [hall.out,hdr.out,List.all_cons,hx]; rfl);clear hx;go_wp2;go_roundw
    case rel=>exact ⟨k + 1,by omega,by go_num,hend,hall'⟩
    case measure=>simp [intOf]; omega
  ·have hfin : Hid (l.all zbJ = true):=Hd (by rw [hall.out,List.drop_of_length_le (by omega)]; rfl)
   go_wp2;go_ret;exact ⟨-1,rfl,by rw [hfin.out]; rfl,hbw⟩
theorem zlQ (v : Value) (l : List ByteArray) (w : World) (h : zan w v l) (hs : ∀ s ∈ l,s.size <= 1000000) : Calls Tryz.prog 183 #[v,.func (.func 184) #[] #[]] w fun e w'=>e = .returned (.bool (!l.all zbJ)) /\ Below w.heap.size w w':=by
 have hcon:=Hd (zql v l w h hs);obtain ⟨A,c,rfl,-⟩:=h;go_enter Tryz.func183,Tryz.ntmps183;go_wp2_with fail;refine hcon.out.mono ?_;rintro e w' ⟨i,rfl,hi,hb⟩;have hi':=Hd hi;clear hcon hi;go_wp2;go_ret;exact ⟨zf hi'.out,hb⟩
def zci (s : ByteArray) : Bool:=decide (s.size <= 40) && (decide ((zdw s).length <= 4) && (zdw s).all zbJ)
end
section
open Go.RowKit
theorem zlw (sep : ByteArray) (save : Nat) : ∀ (k : Nat) (s : ByteArray),∀ x ∈ Lib.splitB sep save k s,x.size <= s.size
 | 0,s,x,h=>by rw [mS.1 h]; exact lQ _
 | k + 1,s,x,h=>by
  unfold Lib.splitB at h
  split at h
  ·rw [mS.1 h]; exact lQ _
  ·rcases List.mem_cons.1 h with h | h
   ·rw [h,ByteArray.size_extract]; omega
   ·have:=zlw sep save k _ x h
    rw [ByteArray.size_extract] at this;omega
theorem zqY {s x : ByteArray} (h : x ∈ zdw s) : x.size <= s.size:=zlw _ _ _ _ _ h
theorem ztF (s : ByteArray) : (zdw s).length <= s.size + 1:=by
 have h:=Lib.splitB_all zdc (by decide) 0 _ s rfl;have h2:=Lib.countB_le zdc (by decide) s.size s (lQ _);unfold zdw;omega
theorem zvU (w : World) (l : List ByteArray) (h : ∀ x ∈ l,x.size <= maxLen) (hl : l.length <= maxLen) : zan (w.alloc (.cells (l.map Value.string).toArray 9)) (.slice (some ⟨w.heap.size,0,none⟩) l.length l.length) l:=by
 refine ⟨_,_,rfl,lQ _,hl,fun _=>⟨w.heap.size,0,rfl,by simp,fun i hi=>⟨?_,?_⟩⟩⟩
 ·rw [(Blk.new w 9 (l.map Value.string).toArray).cell (0 + i)]
  simp [hi]
 ·rw [zD _ _ _ hi]; exact h _ (List.getElem_mem hi)
theorem ziY (s : ByteArray) (w : World) (hs : s.size <= 1000000) : Calls Tryz.prog 114 #[.string s] w fun e w'=>e = .returned (.bool (zci s)) /\ Below w.heap.size w w':=by
 have hd : Hid (zci s = (decide (s.size <= 40) && (decide ((zdw s).length <= 4) && (zdw s).all zbJ))):=Hd rfl;have hsp:=Hd (zqZ s w hs);have hmem:=Hd (fun (x : ByteArray) (hx : x ∈ zdw s)=>Nat.le_trans (zqY hx) hs);have hlen:=ztF s;have hsz:=Hd hs;generalize zci s = r at *;go_enter Tryz.func114,Tryz.ntmps114;by_cases h40 : s.size <= 40
 rotate_left
 ·have d1 : decide ((40 : Int) < (s.size : Int)) = true:=decide_eq_true (by omega)
  rw [decide_eq_false h40] at hd;clear h40 hlen hs;go_wp2;go_ret;exact ⟨zf (by rw [hd.out]; rfl),Below.refl _ _⟩
 have d1 : decide ((40 : Int) < (s.size : Int)) = false:=decide_eq_false (by omega);rw [decide_eq_true h40] at hd;clear h40;go_wp2_with fail;refine hsp.out.mono ?_;rintro e w2 ⟨rfl,rfl⟩;have hb : Below w.heap.size w (w.alloc (.cells ((zdw s).map Value.string).toArray 9)):=(Below.refl _ _).alloc (lQ _) _;have htx:=Hd (zvU w (zdw s) (fun x hx=>Nat.le_trans (hmem.out x hx) (by unfold maxLen; omega)) (by unfold maxLen; omega));generalize w.alloc (.cells ((zdw s).map Value.string).toArray 9) = W at *;generalize hl : (zdw s).length = n at *;have hcn:=Hd (zlQ _ (zdw s) W htx.out hmem.out);clear hsp hlen hmem htx hs;generalize (zdw s).all zbJ = al at *;by_cases h4 : n <= 4
 ·have d4 : decide ((n : Int) <= 4) = true:=decide_eq_true (by omega)
  rw [decide_eq_true h4] at hd;clear h4 hl;go_wp2_with fail;refine hcn.out.mono ?_;rintro e w3 ⟨rfl,hb3⟩;have hend:=hb.trans (hb3.mono hb.size);go_wp2;go_ret;exact ⟨zf (by rw [hd.out]; first | done | simp),hend⟩
 ·have d4 : decide ((n : Int) <= 4) = false:=decide_eq_false (by omega)
  rw [decide_eq_false h4] at hd;clear h4 hl;go_wp2;go_ret;exact ⟨zf (by rw [hd.out]; first | done | simp),hb⟩
def zka (c : Int) (x : ByteArray) : Bool:=(zgu c x).2 && decide ((zgu c x).1 = x)
def zdA (c : Int) : List ByteArray -> List ByteArray -> Bool
 | _,[]=>true
 | seen,x :: t=>if zka c x && !zcg x seen then zdA c (seen ++ [x]) t else false
def zkE (t : zJ) : Bool:=decide (1 <= t.codes.length) && (decide (t.codes.length <= 50) && zdA t.country [] t.codes)
theorem zaO {α : Type} (l : List α) (d : α) (k : Nat) (h : k < l.length) : l.take (k + 1) = l.take k ++ [l.getD k d]:=by
 rw [List.take_succ_eq_append_getElem h,zD _ _ _ h]
theorem zan.take {w : World} {b off n c : Nat} {l : List ByteArray} (hn : n = l.length) (hc : n <= c) (hcm : c <= maxLen) (hb : b < w.heap.size) (h : ∀ i,i < l.length -> w.cell? ⟨b,off + i,none⟩ = some (.string (l.getD i ByteArray.empty)) /\ (l.getD i ByteArray.empty).size <= maxLen) (k : Nat) (hk : k <= n) :
  zan w (.slice (some ⟨b,off,none⟩) k c) (l.take k):=by
 have hl : (l.take k).length = k:=by rw [List.length_take]; omega
 refine ⟨_,_,by rw [hl],by omega,hcm,fun _=>⟨b,off,rfl,hb,fun i hi=>?_⟩⟩;rw [hl] at hi;have:=h i (by omega);rw [zD _ _ _ (by omega)] at this;rw [zD _ _ _ (by omega),List.getElem_take];exact this
theorem zpM (t : zJ) (cv : Value) (w : World) (hx : zan w cv t.codes) (hs : ∀ x ∈ t.codes,x.size <= 1000000) : Calls Tryz.prog 116 #[.agg (zcB t cv)] w fun e w'=>e = .returned (.bool (zkE t)) /\ Below w.heap.size w w':=by
 have hd : Hid (zkE t = (decide (1 <= t.codes.length) && (decide (t.codes.length <= 50) && zdA t.country [] t.codes))):=Hd rfl;obtain ⟨A,c,rfl,hn,hc,hA⟩:=hx;have hb1 : Below w.heap.size w (w.alloc (.cells (zcB t (.slice A t.codes.length c)) 79)):=(Below.refl _ _).alloc (lQ _) _;have kT:=Hd (Blk.new w 79 (zcB t (.slice A t.codes.length c)));have hcm:=Hd hc;unfold maxLen at hc;have hA':=Hd hA;have hs':=Hd hs;generalize zkE t = r at *;obtain ⟨id,country,name,region,codes⟩:=t;simp only at hd hn hA' hs';clear hA hs;unfold zcB at *;simp only at kT hb1;generalize hl : codes.length = n at *;go_enter Tryz.func116,Tryz.ntmps116;by_cases h1 : 1 <= n
 rotate_left
 ·have d1 : decide ((n : Int) < 1) = true:=decide_eq_true (by omega)
  rw [decide_eq_false h1] at hd;clear h1 hl;go_wp2;go_ret;exact ⟨zf (by rw [hd.out]; first | done | simp),hb1⟩
 have d1 : decide ((n : Int) < 1) = false:=decide_eq_false (by omega);rw [decide_eq_true h1] at hd;by_cases h50 : n <= 50
 rotate_left
 ·have d5 : decide ((50 : Int) < (n : Int)) = true:=decide_eq_true (by omega)
  rw [decide_eq_false h50] at hd;clear h1 hl h50;go_wp2;go_ret;exact ⟨zf (by rw [hd.out]; first | done | simp),hb1⟩
 have d5 : decide ((50 : Int) < (n : Int)) = false:=decide_eq_false (by omega);rw [decide_eq_true h50] at hd;obtain ⟨b,off,rfl,hb,hi⟩:=hA'.out (by omega);have hl':=Hd hl;have h50':=Hd h50;clear hl h50;go_wp2;have kT':=kT;clear kT;generalize hWe : w.alloc (.cells #[.int .i64 id,.int .u8 country,.string name,.string region,.slice (some ⟨b,off,none⟩) n c] 79) = W at *;clear hWe;have hi':=Hd hi;clear hi;have hT:=Hd kT'.out.lt;have hbW:=Hd hb1;clear hb1
 go_loopw [20] (fun iv wr=>∃ k : Nat,k <= n /\ iv = .int .i64 k /\ Below W.heap.size W wr /\ Hid (zdA country [] codes = zdA country (codes.take k) (codes.drop k))) (fun iv _=>n - (intOf iv).toNat)
 case atStart=>exact ⟨0,by omega,rfl,Below.refl _ _,Hd rfl⟩
 case round=>
  obtain ⟨k,hk,rfl,hbw,hct⟩:=hrel;rename World=>wr;have n0 : (0 : Int) <= (k : Int):=by omega
  have hend:=Hd (hbW.out.trans (hbw.mono hbW.out.size));have kx:=kT'.out.below hbw hT.out;have z1:=kx.cell 1;have z4:=kx.cell 4;simp at z1 z4;by_cases hlt : k < n
  ·have n1 : (k : Int) < (n : Int):=by omega
   have g:=(hend.out.cell (p:=⟨b,off + k,none⟩) hb).trans (hi'.out k hlt).1;have hx:=hs'.out (codes.getD k ByteArray.empty) (by rw [zD _ _ _ (by rw [hl'.out]; exact hlt)]; exact List.getElem_mem _);have hdr:=Hd (zaI codes ByteArray.empty k (by rw [hl'.out]; exact hlt));have htk:=Hd (zaO codes ByteArray.empty k (by rw [hl'.out]; exact hlt));have hbt : b < wr.heap.size:=Nat.lt_of_lt_of_le hb hend.out.size;have htx:=Hd (fun (w2 : World) (h2 : Below wr.heap.size wr w2)=>(zan.take (w:=wr) hl'.out.symm hn hcm.out hbt (fun i hi=>by rw [hl'.out] at hi; exact ⟨(hend.out.cell (p:=⟨b,off + i,none⟩) hb).trans (hi'.out i hi).1,(hi'.out i hi).2⟩) k (by omega)).stays (zo.of h2));generalize codes.getD k ByteArray.empty = x at g hx hdr htk;have hco:=Hd (zrB country x wr hx);have hcf : Hid (zka country x = ((zgu country x).2 && ((zgu country x).1.toList == x.toList))):=Hd (by unfold zka; rw [zsf]);generalize zgu country x = cp at *;obtain ⟨own,ok⟩:=cp;simp only at hcf;have hstep : Hid (zdA country [] codes = if zka country x && !zcg x (codes.take k) then zdA country (codes.take (k + 1)) (codes.drop (k + 1)) else false):=Hd (by rw [hct.out,hdr.out,htk.out]; rfl);rw [hcf.out] at hstep;clear hct hcf hdr htk;go_wp2_with fail;refine hco.out.mono ?_;rintro e w2 ⟨rfl,hb2⟩;have hbw2:=Hd (hbw.trans (hb2.mono hbw.size));have hend2:=Hd (hend.out.trans (hb2.mono hend.out.size));have hcn:=Hd (zbE _ _ x w2 (htx.out w2 hb2));have ky:=kT'.out.below hbw2.out hT.out;have y1:=ky.cell 1;have y4:=ky.cell 4;simp at y1 y4;clear hco z1 z4 kx ky htx hb2
   cases ok with
   | false=>
    have hno : Hid (zdA country [] codes = false):=Hd (by rw [hstep.out]; rfl);go_wp2;go_ret;exact ⟨zf (by rw [hd.out,hno.out]; rfl),hend2.out⟩
   | true=>
   cases b1 : own.toList == x.toList with
   | false=>
    have hno : Hid (zdA country [] codes = false):=Hd (by rw [hstep.out,b1]; rfl);go_wp2;go_ret;exact ⟨zf (by rw [hd.out,hno.out]; rfl),hend2.out⟩
   | true=>
   rw [b1] at hstep;go_wp2_with fail;refine hcn.out.mono ?_;rintro e w3 ⟨rfl,rfl⟩
   cases b2 : zcg x (codes.take k) with
   | true=>
    have hno : Hid (zdA country [] codes = false):=Hd (by rw [hstep.out,b2]; rfl);go_wp2;go_ret;exact ⟨zf (by rw [hd.out,hno.out]; rfl),hend2.out⟩
   | false=>
    rw [b2] at hstep;have hstep' : Hid (zdA country [] codes = zdA country (codes.take (k + 1)) (codes.drop (k + 1))):=Hd hstep.out;go_wp2;go_roundw
    case rel=>exact ⟨k + 1,by omega,by go_num,hbw2.out,hstep'⟩
    case measure=>simp [intOf]; omega
  ·obtain rfl : k = n:=by omega
   have hyes : Hid (zdA country [] codes = true):=Hd (by rw [hct.out,List.drop_of_length_le (by rw [hl'.out]; omega)]; rfl);go_wp2;go_ret;exact ⟨zf (by rw [hd.out,hyes.out]; rfl),hend.out⟩
end
section
open Go.RowKit Go.Maps Go.WideElems Go.ChangeShapes Go.WideShapes Go.MapKept Go.ChangeMaps
open Go.WideMaps (KeyLaw)
section
variable {α β : Type} [DecidableEq α] {P : Program} {k e t : TypeId} {enc : α -> Value} {val : β -> Value} {w w' : World} {b n : Nat} {M : List (α × β)}
theorem zhl (w : World) (b : Nat) (o : Obj) : w.grownBy (setBlock w b o) (some b):=
 ⟨rfl,rfl,rfl,by simp [setBlock],fun i _ hi=>by
  have : i ≠ b:=fun e=>hi (by rw [e])
  simp [setBlock,Ne.symm this]⟩
theorem zbc.entry (h : zbc P k enc val w b n M) (L : KeyLaw P k) (ht : P.underlying t = some (.map k e)) {z : Value} (hz : ∀ u : World,(zeroValue e).run P u = .ok z u) (hn : n < maxLen)
  (hinj : ∀ x y,enc x = enc y -> x = y) (a : α) {kl : Lit} (hk : keyOf P k (enc a) = some kl) :
  ∃ (st : Nat) (W1 : World),(Instr.mapEntry t (.map (some b)) (enc a)).run P w = .ok (.tuple #[orV val z (zbR a M),goInt st]) W1 /\ w.grownBy W1 (some b) /\
   ∀ (W2 : World) (d : β),W2.heap[b]? = W1.heap[b]? -> ∃ W3,(Instr.entryStore t (.map (some b)) (goInt st) (val d)).run P W2 = .ok () W3 /\ zbc P k enc val W3 b (n + 1) ((a,d) :: M) /\ W2.grownBy W3 (some b):=by
 have K:=Keyed.of_law L;have hlook:=h.look K ht (hz w) a hk;have hput:=fun d=>h.put K ht hn hinj a d hk;obtain ⟨D,⟨es,clock,hb,hF⟩,-⟩:=h;obtain ⟨v0,st,es1,clock1,he,-,hst⟩:=entry_then_store L ht hz hb hF.1 hk
 have hv : v0 = orV val z (zbR a M):=by
  rcases L.find w hk es.toList hF.1.keys with ⟨h1,h2⟩ | ⟨j,e0,h1,h2,h3⟩
  ·have hl : (Instr.lookup t (.map (some b)) (enc a) false).run P w = .ok z w:=by simp [Instr.lookup,run_underlying ht,MapKept.run_getObj_map hb,K.check w _ hk,h1,hz,Result.andThen]
   have hm : (Instr.mapEntry t (.map (some b)) (enc a)).run P w = .ok (.tuple #[z,goInt clock]) (setBlock w b (.map (es.push ⟨enc a,z,clock⟩) (clock + 1))):=by
    simp [Instr.mapEntry,run_underlying ht,MapKept.run_getObj_map hb,L.check w false hk,h1,hz,MapKept.run_setObj_map _ hb,Result.andThen,setBlock]
   rw [hlook] at hl;rw [he] at hm;injection hl with hl;injection hm with hm _;rw [hl];simp at hm;exact hm.1
  ·have hj : es[j]? = some e0:=by simpa using h2
   have hl : (Instr.lookup t (.map (some b)) (enc a) false).run P w = .ok e0.val w:=by simp [Instr.lookup,run_underlying ht,MapKept.run_getObj_map hb,K.check w _ hk,h1,Result.andThen]
   have hsame : es.modify j (fun e=>{ e with key:=enc a }) = es:=by
    apply Array.ext'
    rw [Array.toList_modify,modify_eq_set _ _ _ _ h2];have : ({ e0 with key:=enc a } : MapEntry) = e0:=by rw [<- h3]
    rw [this];exact set_self _ _ _ h2
   have hm : (Instr.mapEntry t (.map (some b)) (enc a)).run P w = .ok (.tuple #[e0.val,goInt e0.born]) (setBlock w b (.map es clock)):=by
    simp [Instr.mapEntry,run_underlying ht,MapKept.run_getObj_map hb,L.check w false hk,h1,hj,h3,L.stays w hk,hsame,MapKept.run_setObj_map _ hb,Result.andThen,setBlock]
   rw [hlook] at hl;rw [he] at hm;injection hl with hl;injection hm with hm _;rw [hl];simp at hm;exact hm.1
 subst hv;refine ⟨st,_,he,zhl _ _ _,fun W2 d hW2=>?_⟩;obtain ⟨es',clock',h1,h2⟩:=hst W2 (val d) (hW2.trans (heap_setBlock_same hb _));obtain ⟨w5,h3,h4,h5⟩:=hput d;rw [h2] at h3;cases h3
 refine ⟨_,h1,h4.same ?_,zhl _ _ _⟩;rw [heap_setBlock_same (hW2.trans (heap_setBlock_same hb _)),heap_setBlock_same hb]
end
end
section
open Go.RowKit Go.Maps
open Go.WideMaps (KeyLaw)
theorem znr : laidOutB Tryz.prog = true:=by kernel_rfl
theorem zzx : KeyLaw Tryz.prog 197:=deep_law_laid znr (m:=3) (by omega) (of_decide_eq_true (by kernel_rfl)) (by kernel_rfl) (by kernel_rfl)
theorem zva : KeyLaw Tryz.prog 202:=deep_law_laid znr (m:=3) (by omega) (of_decide_eq_true (by kernel_rfl)) (by kernel_rfl) (by kernel_rfl)
theorem zzy : KeyLaw Tryz.prog 206:=deep_law_laid znr (m:=3) (by omega) (of_decide_eq_true (by kernel_rfl)) (by kernel_rfl) (by kernel_rfl)
theorem zdf : Keyed Tryz.prog 3:=int_keyed Tryz.underlying3
theorem zkc : Keyed Tryz.prog 197:=Keyed.of_law zzx
theorem zkd : Keyed Tryz.prog 202:=Keyed.of_law zva
theorem zrO : Keyed Tryz.prog 206:=Keyed.of_law zzy
def zam (n : Int) : Prop:=-9223372036854775808 <= n /\ n <= 9223372036854775807
theorem zAj {n : Int} (h : zam n) : (Lit.int .i64 n).wf = true:=by
 unfold zam at h;simp [Lit.wf,IntKind.min,IntKind.max,IntKind.signed,IntKind.bits];omega
def zY (n : Int) : Value:=.int .i64 n
theorem zbm (x y : Int) (h : zY x = zY y) : x = y:=by
 injection h
theorem zaJ (n : Int) (h : zam n) : keyOf Tryz.prog 3 (zY n) = some (.int .i64 n):=keyOf_int_mk Tryz.underlying3 (zAj h)
abbrev zdb:=Int × ByteArray
def zbh (x : zdb) : Value:=.agg #[.int .i64 x.1,.string x.2]
theorem zjq (x y : zdb) (h : zbh x = zbh y) : x = y:=by
 obtain ⟨a,b⟩:=x;obtain ⟨c,d⟩:=y;simp [zbh] at h;rw [h.1,h.2]
theorem c3 : Tryz.prog.cellsOf 3 = 1:=by kernel_rfl
theorem c9 : Tryz.prog.cellsOf 9 = 1:=by kernel_rfl
theorem zla (a : Int) (h : zam a) : Tryz.prog.keyLits 325 3 [Value.int .i64 a] = some [.int .i64 a]:=by
 unfold Program.keyLits;simp only [Tryz.underlying3];rw [if_pos ⟨trivial,zAj h⟩]
theorem zuY (s : ByteArray) (h : s.size <= maxLen) : Tryz.prog.keyLits 325 9 [Value.string s] = some [.string s.data.toList]:=by
 unfold Program.keyLits;simp only [Tryz.underlying9];rw [if_pos h]
theorem zwk : Tryz.prog.types.size = 325:=by kernel_rfl
theorem zkY (x : zdb) (h : zam x.1) (h2 : x.2.size <= maxLen) : ∃ kl,keyOf Tryz.prog 197 (zbh x) = some kl:=by
 obtain ⟨a,b⟩:=x;have hkt : Tryz.prog.keyType 197 = true:=by kernel_rfl
 have c197 : Tryz.prog.cellsOf 197 = 2:=by kernel_rfl
 unfold keyOf zbh;simp only [Tryz.underlying197,zwk];rw [if_pos (by simp [hkt,Value.formed,Tryz.underlying197,c197])];unfold Program.keyLits;simp only [Tryz.underlying197,Value.cells];rw [if_pos ⟨by simp [c197],by kernel_rfl⟩];simp only [List.mapM_cons,List.mapM_nil,c3,c9,dZ,tS,tZ,dS,zla a h,zuY b h2];exact ⟨_,rfl⟩
def zbU (x : Int × Int) : Value:=.agg #[.int .i64 x.1,.int .i64 x.2]
theorem zhz (x y : Int × Int) (h : zbU x = zbU y) : x = y:=by
 obtain ⟨a,b⟩:=x;obtain ⟨c,d⟩:=y;simp [zbU] at h;rw [h.1,h.2]
theorem znq (x : Int × Int) (h : zam x.1) (h2 : zam x.2) : ∃ kl,keyOf Tryz.prog 202 (zbU x) = some kl:=by
 obtain ⟨a,b⟩:=x;have hkt : Tryz.prog.keyType 202 = true:=by kernel_rfl
 have c202 : Tryz.prog.cellsOf 202 = 2:=by kernel_rfl
 unfold keyOf zbU;simp only [Tryz.underlying202,zwk];rw [if_pos (by simp [hkt,Value.formed,Tryz.underlying202,c202])];unfold Program.keyLits;simp only [Tryz.underlying202,Value.cells];rw [if_pos (by simp [c202])];rw [show List.range 2 = [0,1] from rfl];simp only [List.mapM_cons,List.mapM_nil,c3,Nat.zero_mul,Nat.one_mul,dZ,tS,tZ,dS,zla a h,zla b h2];exact ⟨_,rfl⟩
structure zgp where
 town : Int
 street : Int
 number : Int
 letter : ByteArray
 unit : ByteArray
 box : Int
deriving DecidableEq
def zdX (x : zgp) : Value:=.agg #[.int .i64 x.town,.int .i64 x.street,.int .i64 x.number,.string x.letter,.string x.unit,.int .i64 x.box]
theorem zqe (x y : zgp) (h : zdX x = zdX y) : x = y:=by
 obtain ⟨a1,a2,a3,a4,a5,a6⟩:=x;obtain ⟨b1,b2,b3,b4,b5,b6⟩:=y;simp [zdX] at h;obtain ⟨rfl,rfl,rfl,rfl,rfl,rfl⟩:=h;rfl
theorem zsV (x : zgp) (h1 : zam x.town) (h2 : zam x.street) (h3 : zam x.number) (h4 : x.letter.size <= maxLen) (h5 : x.unit.size <= maxLen) (h6 : zam x.box) : ∃ kl,keyOf Tryz.prog 206 (zdX x) = some kl:=by
 obtain ⟨a1,a2,a3,a4,a5,a6⟩:=x;have hkt : Tryz.prog.keyType 206 = true:=by kernel_rfl
 have c206 : Tryz.prog.cellsOf 206 = 6:=by kernel_rfl
 unfold keyOf zdX;simp only [Tryz.underlying206,zwk];rw [if_pos (by simp [hkt,Value.formed,Tryz.underlying206,c206])];unfold Program.keyLits;simp only [Tryz.underlying206,Value.cells];rw [if_pos ⟨by simp [c206],by kernel_rfl⟩];simp only [List.mapM_cons,List.mapM_nil,c3,c9,dZ,tS,tZ,dS,zla _ h1,zla _ h2,zla _ h3,zla _ h6,zuY _ h4,zuY _ h5];exact ⟨_,rfl⟩
theorem zzb (w : World) : (zeroValue 3).run Tryz.prog w = .ok (.int .i64 0) w:=by kernel_rfl
theorem zwu (w : World) : (zeroValue 4).run Tryz.prog w = .ok (.bool false) w:=by kernel_rfl
theorem zzN (w : World) : (zeroValue 79).run Tryz.prog w = .ok (.agg #[.int .i64 0,.int .u8 0,.string ⟨#[]⟩,.string ⟨#[]⟩,.slice none 0 0]) w:=by kernel_rfl
theorem znS (w : World) : (zeroValue 28).run Tryz.prog w = .ok (.slice none 0 0) w:=by kernel_rfl
theorem zwr (w : World) : (zeroValue 130).run Tryz.prog w = .ok (.agg #[.slice none 0 0,.bool false]) w:=by kernel_rfl
end
end Go.Proofs.YtggimnndflkjkaaGreatDoor
