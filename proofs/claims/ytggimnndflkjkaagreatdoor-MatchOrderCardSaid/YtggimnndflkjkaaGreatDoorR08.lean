import Derived.Test.YtggimnndflkjkaaGreatDoorR01
import Derived.Test.YtggimnndflkjkaaGreatDoorR07
set_option linter.all false
set_option maxRecDepth 100000
set_option maxHeartbeats 0
namespace Go.Proofs.YtggimnndflkjkaaGreatDoor
section
open Go.RowKit Go.Maps
def znV (ps : List zu) : Prop:=∀ p ∈ ps,p.text.size <= 1000000 /\ zkv p.text /\ 0 <= p.kind /\ p.kind <= 255
theorem zeo (c : Int) (v : Value) (ps : List zu) (w : World) (hv : zav w v ps) (hps : znV ps) :
  Calls Tryz.prog 31 #[.agg #[.int .u8 c,v]] w fun e w'=>e = .returned (.bool (zR c ps)) /\ Below w.heap.size w w':=by
 have hb : Below w.heap.size w (w.alloc (.cells #[.int .u8 c,v] 39)):=(Below.refl _ _).alloc (lQ _) _;have hc:=Hd (zqI c v ps (w.alloc (.cells #[.int .u8 c,v] 39)) (hv.stays (zo.of hb)) hps);obtain ⟨A,cc,rfl,-,-,-⟩:=hv;go_enter Tryz.func31,Tryz.ntmps31;go_wp2_with fail;refine hc.out.mono ?_;rintro e w2 ⟨fd,rfl,hl,hb2⟩;have hend:=hb.trans (hb2.mono hb.size);clear hc hb2 hb
 have hst : Sem.run Tryz.prog (storeCells ⟨w2.heap.size,0,none⟩ (fd.map Value.string)) (w2.alloc (.cells zpA 114)) = .ok () (w2.alloc (.cells (fd.map Value.string).toArray 114)):=
  run_storeCells_new w2 114 zpA (fd.map Value.string).toArray (by rw [zfm]; simp [hl]) (by simp [hl]; rfl) (zgX fd)
 unfold zpA at hst;go_wp2;go_ret;exact ⟨rfl,hend.alloc hend.size _⟩
end
section
open Go.RowKit
structure zJ where
 id : Int
 country : Int
 name : ByteArray
 region : ByteArray
 codes : List ByteArray
structure zz where
 id : Int
 town : Int
 pre : ByteArray
 name : ByteArray
 suffix : ByteArray
 others : List ByteArray
structure zj where
 town : Int
 street : Int
 low : Int
 high : Int
 parity : Int
 code : ByteArray
 route : Int
structure zh where
 id : Int
 town : Int
 street : Int
 number : Int
 letter : ByteArray
 unit : ByteArray
 box : Int
 seq : Int
structure zw where
 towns : List zJ
 streets : List zz
 ranges : List zj
 points : List zh
def zJ.zero : zJ:=⟨0,0,⟨#[]⟩,⟨#[]⟩,[]⟩
def zz.zero : zz:=⟨0,0,⟨#[]⟩,⟨#[]⟩,⟨#[]⟩,[]⟩
def zj.zero : zj:=⟨0,0,0,0,0,⟨#[]⟩,0⟩
def zh.zero : zh:=⟨0,0,0,0,⟨#[]⟩,⟨#[]⟩,0,0⟩
def zcn (n : Int) : Bool:=decide (1 <= n) && decide (n <= 999999)
def zW (p : zh) : Int:=if p.street = 0 then p.box else p.number
def zpC (n : Int) : Bool:=n % 2 == 1
def zbf (g : zj) (n : Int) : Bool:=
 if n < g.low \/ g.high < n then false else if g.parity = 0 then true else if g.parity = 1 then zpC n else if g.parity = 2 then !zpC n else false
def zhJ (low high parity : Int) : Bool:=
 if high < low then false else if parity = 0 then true else if parity = 1 then decide (low < high) || zpC low else if parity = 2 then decide (low < high) || !zpC low else false
def zle (a b : zj) : Bool:=
 if a.parity ≠ b.parity /\ a.parity ≠ 0 /\ b.parity ≠ 0 then false else zhJ (max a.low b.low) (min a.high b.high) (max a.parity b.parity)
def zfn (t w : ByteArray) : ByteArray:=if t.size ≠ 0 /\ w.size ≠ 0 then t ++ zdc ++ w else t ++ w
def zad (pre name suffix : ByteArray) : ByteArray:=zfn (zfn (zfn ⟨#[]⟩ pre) name) suffix
def zz.text (s : zz) : ByteArray:=zad s.pre s.name s.suffix
def zJ.text (t : zJ) : ByteArray:=if t.region.size = 0 then t.name else t.name ++ zdc ++ t.region
def zcB (t : zJ) (cv : Value) : Array Value:=#[.int .i64 t.id,.int .u8 t.country,.string t.name,.string t.region,cv]
def zcj (s : zz) (cv : Value) : Array Value:=#[.int .i64 s.id,.int .i64 s.town,.string s.pre,.string s.name,.string s.suffix,cv]
def zaV (g : zj) : Array Value:=#[.int .i64 g.town,.int .i64 g.street,.int .i64 g.low,.int .i64 g.high,.int .u8 g.parity,.string g.code,.int .i64 g.route]
def zaz (p : zh) : Array Value:=#[.int .i64 p.id,.int .i64 p.town,.int .i64 p.street,.int .i64 p.number,.string p.letter,.string p.unit,.int .i64 p.box,.int .i64 p.seq]
structure zmj (w : World) (b o : Nat) (t : zJ) (cv : Value) : Prop where
 c0 : w.cell? ⟨b,o,none⟩ = some (.int .i64 t.id)
 c1 : w.cell? ⟨b,o + 1,none⟩ = some (.int .u8 t.country)
 c2 : w.cell? ⟨b,o + 2,none⟩ = some (.string t.name)
 c3 : w.cell? ⟨b,o + 3,none⟩ = some (.string t.region)
 c4 : w.cell? ⟨b,o + 4,none⟩ = some cv
 tx : zan w cv t.codes
structure zjW (w : World) (b o : Nat) (s : zz) (cv : Value) : Prop where
 c0 : w.cell? ⟨b,o,none⟩ = some (.int .i64 s.id)
 c1 : w.cell? ⟨b,o + 1,none⟩ = some (.int .i64 s.town)
 c2 : w.cell? ⟨b,o + 2,none⟩ = some (.string s.pre)
 c3 : w.cell? ⟨b,o + 3,none⟩ = some (.string s.name)
 c4 : w.cell? ⟨b,o + 4,none⟩ = some (.string s.suffix)
 c5 : w.cell? ⟨b,o + 5,none⟩ = some cv
 tx : zan w cv s.others
structure zku (w : World) (b o : Nat) (g : zj) : Prop where
 c0 : w.cell? ⟨b,o,none⟩ = some (.int .i64 g.town)
 c1 : w.cell? ⟨b,o + 1,none⟩ = some (.int .i64 g.street)
 c2 : w.cell? ⟨b,o + 2,none⟩ = some (.int .i64 g.low)
 c3 : w.cell? ⟨b,o + 3,none⟩ = some (.int .i64 g.high)
 c4 : w.cell? ⟨b,o + 4,none⟩ = some (.int .u8 g.parity)
 c5 : w.cell? ⟨b,o + 5,none⟩ = some (.string g.code)
 c6 : w.cell? ⟨b,o + 6,none⟩ = some (.int .i64 g.route)
structure zht (w : World) (b o : Nat) (p : zh) : Prop where
 c0 : w.cell? ⟨b,o,none⟩ = some (.int .i64 p.id)
 c1 : w.cell? ⟨b,o + 1,none⟩ = some (.int .i64 p.town)
 c2 : w.cell? ⟨b,o + 2,none⟩ = some (.int .i64 p.street)
 c3 : w.cell? ⟨b,o + 3,none⟩ = some (.int .i64 p.number)
 c4 : w.cell? ⟨b,o + 4,none⟩ = some (.string p.letter)
 c5 : w.cell? ⟨b,o + 5,none⟩ = some (.string p.unit)
 c6 : w.cell? ⟨b,o + 6,none⟩ = some (.int .i64 p.box)
 c7 : w.cell? ⟨b,o + 7,none⟩ = some (.int .i64 p.seq)
def zfH (w : World) (v : Value) (l : List zJ) : Prop:=Sl w v l.length fun b off i=>∃ cv,zmj w b (off + i * 5) (l.getD i zJ.zero) cv
def zft (w : World) (v : Value) (l : List zz) : Prop:=Sl w v l.length fun b off i=>∃ cv,zjW w b (off + i * 6) (l.getD i zz.zero) cv
def zeh (w : World) (v : Value) (l : List zj) : Prop:=Sl w v l.length fun b off i=>zku w b (off + i * 7) (l.getD i zj.zero)
def zfG (w : World) (v : Value) (l : List zh) : Prop:=Sl w v l.length fun b off i=>zht w b (off + i * 8) (l.getD i zh.zero)
section
variable {w w' : World} {b o : Nat} {v cv : Value}
theorem zmj.stays {t : zJ} (h : zmj w b o t cv) (hs : zo w w') (hb : b < w.heap.size) : zmj w' b o t cv:=
 ⟨(hs.2 _ hb).trans h.c0,(hs.2 _ hb).trans h.c1,(hs.2 _ hb).trans h.c2,(hs.2 _ hb).trans h.c3,(hs.2 _ hb).trans h.c4,h.tx.stays hs⟩
theorem zjW.stays {t : zz} (h : zjW w b o t cv) (hs : zo w w') (hb : b < w.heap.size) : zjW w' b o t cv:=
 ⟨(hs.2 _ hb).trans h.c0,(hs.2 _ hb).trans h.c1,(hs.2 _ hb).trans h.c2,(hs.2 _ hb).trans h.c3,(hs.2 _ hb).trans h.c4,(hs.2 _ hb).trans h.c5,h.tx.stays hs⟩
theorem zku.stays {t : zj} (h : zku w b o t) (hs : zo w w') (hb : b < w.heap.size) : zku w' b o t:=
 ⟨(hs.2 _ hb).trans h.c0,(hs.2 _ hb).trans h.c1,(hs.2 _ hb).trans h.c2,(hs.2 _ hb).trans h.c3,(hs.2 _ hb).trans h.c4,(hs.2 _ hb).trans h.c5,(hs.2 _ hb).trans h.c6⟩
theorem zht.stays {t : zh} (h : zht w b o t) (hs : zo w w') (hb : b < w.heap.size) : zht w' b o t:=
 ⟨(hs.2 _ hb).trans h.c0,(hs.2 _ hb).trans h.c1,(hs.2 _ hb).trans h.c2,(hs.2 _ hb).trans h.c3,(hs.2 _ hb).trans h.c4,(hs.2 _ hb).trans h.c5,(hs.2 _ hb).trans h.c6,(hs.2 _ hb).trans h.c7⟩
theorem zfH.stays {l : List zJ} (h : zfH w v l) (hs : zo w w') : zfH w' v l:=Sl.stays h hs fun _ _ _ hb _ ⟨cv,hc⟩=>⟨cv,hc.stays hs hb⟩
theorem zft.stays {l : List zz} (h : zft w v l) (hs : zo w w') : zft w' v l:=Sl.stays h hs fun _ _ _ hb _ ⟨cv,hc⟩=>⟨cv,hc.stays hs hb⟩
theorem zeh.stays {l : List zj} (h : zeh w v l) (hs : zo w w') : zeh w' v l:=Sl.stays h hs fun _ _ _ hb _ hc=>hc.stays hs hb
theorem zfG.stays {l : List zh} (h : zfG w v l) (hs : zo w w') : zfG w' v l:=Sl.stays h hs fun _ _ _ hb _ hc=>hc.stays hs hb
end
structure zaf (w : World) (vt vs vr vp : Value) (f : zw) : Prop where
 t : zfH w vt f.towns
 s : zft w vs f.streets
 r : zeh w vr f.ranges
 p : zfG w vp f.points
theorem zaf.stays {w w' : World} {vt vs vr vp : Value} {f : zw} (h : zaf w vt vs vr vp f) (hs : zo w w') : zaf w' vt vs vr vp f:=⟨h.t.stays hs,h.s.stays hs,h.r.stays hs,h.p.stays hs⟩
theorem zpK (a b : Nat) (ha : a < 1000001) (hb : b < 1000001) : bits BinOp.and IntKind.i64 (a : Int) (b : Int) = ((a &&& b : Nat) : Int):=by
 have h : a &&& b < 1000001:=Nat.lt_of_le_of_lt Nat.and_le_left ha;show IntKind.i64.wrap (((BitVec.ofInt 64 (a : Int) &&& BitVec.ofInt 64 (b : Int)).toNat : Nat) : Int) = _;rw [BitVec.ofInt_natCast,BitVec.ofInt_natCast,BitVec.toNat_and,BitVec.toNat_ofNat,BitVec.toNat_ofNat,Nat.mod_eq_of_lt (by omega),Nat.mod_eq_of_lt (by omega)];generalize a &&& b = c at h;simp [IntKind.wrap,IntKind.bits,IntKind.signed]; omega
theorem zug (n : Int) (h0 : 0 <= n) (h1 : n <= 1000000) : bits BinOp.and IntKind.i64 n 1 = n % 2:=by
 obtain ⟨k,rfl⟩ : ∃ k : Nat,n = k:=⟨n.toNat,by omega⟩;have:=zpK k 1 (by omega) (by omega);rw [show ((1 : Nat) : Int) = 1 from rfl] at this;rw [this,Nat.and_one_is_mod];omega
theorem zoO (p : zh) (w : World) : Calls Tryz.prog 47 #[.agg (zaz p)] w fun e w'=>e = .returned (.int .i64 (zW p)) /\ Below w.heap.size w w':=by
 obtain ⟨id,town,street,number,letter,unit,box,seq⟩:=p;have hb : Below w.heap.size w (w.alloc (.cells (zaz ⟨id,town,street,number,letter,unit,box,seq⟩) 33)):=(Below.refl _ _).alloc (lQ _) _;have hd : Hid (zW ⟨id,town,street,number,letter,unit,box,seq⟩ = if street = 0 then box else number):=Hd rfl;unfold zaz at *;by_cases h0 : street = 0
 ·rw [if_pos h0] at hd
  subst h0;go_enter Tryz.func47,Tryz.ntmps47;go_wp2;go_ret;exact ⟨zbO hd.out.symm,hb⟩
 ·rw [if_neg h0] at hd
  have e0 : (street == 0) = false:=by simpa using h0
  clear h0;go_enter Tryz.func47,Tryz.ntmps47;go_wp2;go_ret;exact ⟨zbO hd.out.symm,hb⟩
theorem zkI (g : zj) (n : Int) (w : World) (hn0 : 0 <= n) (hn1 : n <= 1000000) : Calls Tryz.prog 71 #[.agg (zaV g),.int .i64 n] w fun e w'=>e = .returned (.bool (zbf g n)) /\ Below w.heap.size w w':=by
 obtain ⟨town,street,low,high,parity,code,route⟩:=g;have hb : Below w.heap.size w (w.alloc (.cells (zaV ⟨town,street,low,high,parity,code,route⟩) 72)):=(Below.refl _ _).alloc (lQ _) _;have hd : Hid (zbf ⟨town,street,low,high,parity,code,route⟩ n = if n < low \/ high < n then false else if parity = 0 then true else if parity = 1 then zpC n else if parity = 2 then !zpC n else false):=Hd rfl;have ha:=zug n hn0 hn1;unfold zaV at *;by_cases h1 : n < low
 ·rw [if_pos (.inl h1)] at hd
  clear ha;go_enter Tryz.func71,Tryz.ntmps71;go_wp2;go_ret;exact ⟨zf hd.out.symm,hb⟩
 by_cases h2 : high < n
 ·rw [if_pos (.inr h2)] at hd
  have d1 : decide (n < low) = false:=decide_eq_false h1;clear ha h1;go_enter Tryz.func71,Tryz.ntmps71;go_wp2;go_ret;exact ⟨zf hd.out.symm,hb⟩
 rw [if_neg (by omega)] at hd;have d1 : decide (n < low) = false:=decide_eq_false h1;have d2 : decide (high < n) = false:=decide_eq_false h2;clear h1 h2;by_cases p0 : parity = 0
 ·rw [if_pos p0] at hd
  subst p0;clear ha;go_enter Tryz.func71,Tryz.ntmps71;go_wp2;go_ret;exact ⟨zf hd.out.symm,hb⟩
 have e0 : (parity == 0) = false:=by simpa using p0
 rw [if_neg p0] at hd;by_cases p1 : parity = 1
 ·rw [if_pos p1] at hd
  subst p1;have ho : Hid (zpC n = (bits BinOp.and IntKind.i64 n 1 == 1)):=Hd (by rw [ha]; rfl);clear ha p0 e0;go_enter Tryz.func71,Tryz.ntmps71;go_wp2;go_ret;exact ⟨zf (by rw [hd.out,ho.out]),hb⟩
 have e1 : (parity == 1) = false:=by simpa using p1
 rw [if_neg p1] at hd;by_cases p2 : parity = 2
 ·rw [if_pos p2] at hd
  subst p2
  have ho : Hid ((!zpC n) = (bits BinOp.and IntKind.i64 n 1 == 0)):=Hd (by
   rw [ha]; unfold zpC
   rcases Int.emod_two_eq n with h | h <;> rw [h] <;> rfl)
  clear ha p0 p1 e0 e1;go_enter Tryz.func71,Tryz.ntmps71;go_wp2;go_ret;exact ⟨zf (by rw [hd.out,ho.out]),hb⟩
 have e2 : (parity == 2) = false:=by simpa using p2
 rw [if_neg p2] at hd;clear ha p0 p1 p2;go_enter Tryz.func71,Tryz.ntmps71;go_wp2;go_ret;exact ⟨zf hd.out.symm,hb⟩
end
section
open Go.RowKit Go.Maps
theorem zxM : (Tryz.prog.info? 79).map (fun i=>(i.zero,i.size,i.bytes)) = some (some (.agg #[.int .i64 0,.int .u8 0,.string ⟨#[]⟩,.string ⟨#[]⟩,.slice none 0 0]),5,72):=by kernel_rfl
theorem zzw : (Tryz.prog.info? 83).map (fun i=>(i.zero,i.size,i.bytes)) = some (some (.agg #[.int .i64 0,.int .i64 0,.string ⟨#[]⟩,.string ⟨#[]⟩,.string ⟨#[]⟩,.slice none 0 0]),6,88):=by kernel_rfl
theorem info72 : (Tryz.prog.info? 72).map (fun i=>(i.zero,i.size,i.bytes)) = some (some (.agg #[.int .i64 0,.int .i64 0,.int .i64 0,.int .i64 0,.int .u8 0,.string ⟨#[]⟩,.int .i64 0]),7,64):=by kernel_rfl
theorem zuP : (Tryz.prog.info? 33).map (fun i=>(i.zero,i.size,i.bytes)) = some (some (.agg #[.int .i64 0,.int .i64 0,.int .i64 0,.int .i64 0,.string ⟨#[]⟩,.string ⟨#[]⟩,.int .i64 0,.int .i64 0]),8,80):=by kernel_rfl
def zdN (Q : Nat -> Prop) (w : World) (v : Value) (l : List ByteArray) : Prop:=
 SlP Q w v l.length fun b off i=>w.cell? ⟨b,off + i,none⟩ = some (.string (l.getD i ByteArray.empty)) /\ (l.getD i ByteArray.empty).size <= maxLen
theorem zdN.keep {Q Q' : Nat -> Prop} {w w' : World} {v : Value} {l : List ByteArray} (h : zdN Q w v l) (hk : zc Q w w') (hQ : ∀ b,b < w.heap.size -> Q b -> Q' b) : zdN Q' w' v l:=
 SlP.map h hk.size hQ fun _ _ _ hb hp _ hc=>⟨(hk.cell hb hp).trans hc.1,hc.2⟩
theorem zdN.texts {Q : Nat -> Prop} {w : World} {v : Value} {l : List ByteArray} (h : zdN Q w v l) : zan w v l:=SlP.plain h fun _ _ _ _ _ _ hc=>hc
theorem zbb.textsP {B : Nat} {w : World} {v : Value} {l : List ByteArray} (h : zbb B w v l) : zdN (fun b=>B <= b) w v l:=by
 have hsl:=zaw.sl h (fun _=>rfl);refine SlP.map hsl (lQ _) (fun _ _ hb=>hb) fun b off i _ _ hi hr=>?_;have h1:=hr.2.2 hi 0 (by omega);have h2:=h.2 l[i] (List.getElem_mem hi);rw [znm l ByteArray.empty i hi];exact ⟨by simpa [strCells] using h1,h2⟩
structure zcG where
 t : zJ
 A : Option Addr
 n : Nat
 c : Nat
def zcG.value (x : zcG) : Value:=.slice x.A x.n x.c
def zeg (x : zcG) : List Value:=[.int .i64 x.t.id,.int .u8 x.t.country,.string x.t.name,.string x.t.region,x.value]
structure zbn where
 s : zz
 A : Option Addr
 n : Nat
 c : Nat
def zbn.value (x : zbn) : Value:=.slice x.A x.n x.c
def zfZ (x : zbn) : List Value:=[.int .i64 x.s.id,.int .i64 x.s.town,.string x.s.pre,.string x.s.name,.string x.s.suffix,x.value]
def zbN (g : zj) : List Value:=[.int .i64 g.town,.int .i64 g.street,.int .i64 g.low,.int .i64 g.high,.int .u8 g.parity,.string g.code,.int .i64 g.route]
def zds (p : zh) : List Value:=[.int .i64 p.id,.int .i64 p.town,.int .i64 p.street,.int .i64 p.number,.string p.letter,.string p.unit,.int .i64 p.box,.int .i64 p.seq]
theorem zhf (x : zcG) : ∀ v ∈ zeg x,v.oneCell' = true:=by
 intro v hv;simp only [zeg,zcG.value,List.mem_cons,List.not_mem_nil,or_false] at hv;rcases hv with rfl | rfl | rfl | rfl | rfl <;> rfl
theorem zpm (x : zbn) : ∀ v ∈ zfZ x,v.oneCell' = true:=by
 intro v hv;simp only [zfZ,zbn.value,List.mem_cons,List.not_mem_nil,or_false] at hv;rcases hv with rfl | rfl | rfl | rfl | rfl | rfl <;> rfl
theorem zcY (x : zj) : ∀ v ∈ zbN x,v.oneCell' = true:=by
 intro v hv;simp only [zbN,List.mem_cons,List.not_mem_nil,or_false] at hv;rcases hv with rfl | rfl | rfl | rfl | rfl | rfl | rfl <;> rfl
theorem zfT (x : zh) : ∀ v ∈ zds x,v.oneCell' = true:=by
 intro v hv;simp only [zds,List.mem_cons,List.not_mem_nil,or_false] at hv;rcases hv with rfl | rfl | rfl | rfl | rfl | rfl | rfl | rfl <;> rfl
def apart (a b : Value) : Prop:=∀ g,a.ownBlock = some g -> b.ownBlock ≠ some g
theorem apart.symm {a b : Value} (h : apart a b) : apart b a:=fun g h1 h2=>h g h2 h1
def zeW (B : Nat) (vt vs vr vp : Value) (b : Nat) : Prop:=B <= b /\ some b ≠ vt.ownBlock /\ some b ≠ vs.ownBlock /\ some b ≠ vr.ownBlock /\ some b ≠ vp.ownBlock
structure BR (B G : Nat) (w0 W : World) (vt vs vr vp : Value) (tl : List zcG) (sl : List zbn) (rs : List zj) (ps : List zh) (w : World) : Prop where
 below : Below w0.heap.size w0 w
 order : w0.heap.size <= G /\ G < B /\ B <= w.heap.size
 side : zc (fun b=>b < B /\ b ≠ G) W w
 blk : Blk w G 31 #[vt,vs,vr,vp]
 t : zaw 79 5 zeg zdp B w vt tl
 s : zaw 83 6 zfZ zdp B w vs sl
 r : zaw 72 7 zbN zdp B w vr rs
 p : zaw 33 8 zds zdp B w vp ps
 ts : apart vt vs
 tr : apart vt vr
 tp : apart vt vp
 sr : apart vs vr
 sp : apart vs vp
 rp : apart vr vp
 ti : ∀ x ∈ tl,zdN (zeW B vt vs vr vp) w x.value x.t.codes
 si : ∀ x ∈ sl,zdN (zeW B vt vs vr vp) w x.value x.s.others
section
variable {B G : Nat} {w0 W w wA w1 : World} {vt vs vr vp : Value} {tl : List zcG} {sl : List zbn} {rs : List zj} {ps : List zh}
theorem BR.up (h : BR B G w0 W vt vs vr vp tl sl rs ps w) (hA : Below w.heap.size w wA) : BR B G w0 W vt vs vr vp tl sl rs ps wA where
 below:=h.below.trans (hA.mono (Nat.le_trans (Nat.le_trans h.order.1 (Nat.le_of_lt h.order.2.1)) h.order.2.2))
 order:=⟨h.order.1,h.order.2.1,Nat.le_trans h.order.2.2 hA.size⟩
 side:=h.side.trans (zc.of_below hA _)
 blk:=h.blk.below hA h.blk.lt
 t:=h.t.keep ze (zc.of_below hA _)
 s:=h.s.keep ze (zc.of_below hA _)
 r:=h.r.keep ze (zc.of_below hA _)
 p:=h.p.keep ze (zc.of_below hA _)
 ts:=h.ts
 tr:=h.tr
 tp:=h.tp
 sr:=h.sr
 sp:=h.sp
 rp:=h.rp
 ti:=fun x hx=>(h.ti x hx).keep (zc.of_below hA _) fun _ _ hb=>hb
 si:=fun x hx=>(h.si x hx).keep (zc.of_below hA _) fun _ _ hb=>hb
theorem BR.new_away (h : BR B G w0 W vt vs vr vp tl sl rs ps w) {b : Nat} (hb : w.heap.size <= b) : zeW B vt vs vr vp b:=
 ⟨Nat.le_trans h.order.2.2 hb,fun e=>by have:=(h.t.block_lt e.symm).2; omega,fun e=>by have:=(h.s.block_lt e.symm).2; omega,fun e=>by have:=(h.r.block_lt e.symm).2; omega,fun e=>by have:=(h.p.block_lt e.symm).2; omega⟩
theorem zdq {α : Type} {E : TypeId} {k : Nat} {cells : α -> List Value} {v : Value} {n : Nat} {l ls : List α} (hown1 : w1.ownsRow B E k v n (l.flatMap cells ++ ls.flatMap cells)) (hn : n = l.length + ls.length) : zaw E k cells zdp B w1 v (l ++ ls):=by
 subst hn;exact ⟨by simpa using hown1,fun _ _=>trivial⟩
theorem zar {i : Nat} {u : Value} {ob : Option Nat} (hgr : wA.grownBy w1 ob) {b : Nat} (hb : b < wA.heap.size) (hG : b ≠ G) (ho : some b ≠ ob) : (w1.setCell ⟨G,i,none⟩ u).heap[b]? = wA.heap[b]?:=
 (Below.heap_setCell w1 ⟨G,i,none⟩ u b hG).trans (hgr.block b hb ho)
theorem BR.add_t {g n cap : Nat} {ls : List zcG} (h : BR B G w0 W vt vs vr vp tl sl rs ps wA) (hx : ∀ x ∈ ls,zdN (zeW B vt vs vr vp) wA x.value x.t.codes)
  (hown1 : w1.ownsRow B 79 5 (.slice (some ⟨g,0,none⟩) n cap) n (tl.flatMap zeg ++ ls.flatMap zeg)) (hn : n = tl.length + ls.length) (hgr : wA.grownBy w1 vt.ownBlock) (hat : vt.ownBlock = some g \/ wA.heap.size <= g) :
  BR B G w0 W (.slice (some ⟨g,0,none⟩) n cap) vs vr vp (tl ++ ls) sl rs ps (w1.setCell ⟨G,0,none⟩ (.slice (some ⟨g,0,none⟩) n cap)):=by
 have hG : ∀ g2,vt.ownBlock = some g2 -> B <= g2:=fun g2 e=>(h.t.block_lt e).1;have hord:=h.order;have hsz:=hgr.size;have hGo : some G ≠ vt.ownBlock:=fun e=>by have:=hG G e.symm; omega
 have ks : ∀ g2,vs.ownBlock = some g2 -> (w1.setCell ⟨G,0,none⟩ (.slice (some ⟨g,0,none⟩) n cap)).heap[g2]? = wA.heap[g2]?:=fun g2 e=>zar hgr (h.s.block_lt e).2 (fun e2=>by have:=(h.s.block_lt e).1; omega) (fun e2=>h.ts g2 e2.symm e)
 have aws : apart (.slice (some ⟨g,0,none⟩) n cap) vs:=fun g2 e1 e2=>by
  have e3 : g = g2:=Option.some.inj e1;subst e3;rcases hat with e | e
  ·exact h.ts _ e e2
  ·have:=(h.s.block_lt e2).2; omega
 have kr : ∀ g2,vr.ownBlock = some g2 -> (w1.setCell ⟨G,0,none⟩ (.slice (some ⟨g,0,none⟩) n cap)).heap[g2]? = wA.heap[g2]?:=fun g2 e=>zar hgr (h.r.block_lt e).2 (fun e2=>by have:=(h.r.block_lt e).1; omega) (fun e2=>h.tr g2 e2.symm e)
 have awr : apart (.slice (some ⟨g,0,none⟩) n cap) vr:=fun g2 e1 e2=>by
  have e3 : g = g2:=Option.some.inj e1;subst e3;rcases hat with e | e
  ·exact h.tr _ e e2
  ·have:=(h.r.block_lt e2).2; omega
 have kp : ∀ g2,vp.ownBlock = some g2 -> (w1.setCell ⟨G,0,none⟩ (.slice (some ⟨g,0,none⟩) n cap)).heap[g2]? = wA.heap[g2]?:=fun g2 e=>zar hgr (h.p.block_lt e).2 (fun e2=>by have:=(h.p.block_lt e).1; omega) (fun e2=>h.tp g2 e2.symm e)
 have awp : apart (.slice (some ⟨g,0,none⟩) n cap) vp:=fun g2 e1 e2=>by
  have e3 : g = g2:=Option.some.inj e1;subst e3;rcases hat with e | e
  ·exact h.tp _ e e2
  ·have:=(h.p.block_lt e2).2; omega
 have hK : zc (zeW B vt vs vr vp) wA (w1.setCell ⟨G,0,none⟩ (.slice (some ⟨g,0,none⟩) n cap)):=⟨by simp [World.setCell]; exact hsz,fun b hb ha=>zar hgr hb (fun e=>by have:=ha.1; omega) ha.2.1⟩;have hS : zc (fun b=>b < B /\ b ≠ G) wA (w1.setCell ⟨G,0,none⟩ (.slice (some ⟨g,0,none⟩) n cap)):=⟨by simp [World.setCell]; exact hsz,fun b hb ha=>zar hgr hb ha.2 fun e=>by have:=hG b e.symm; omega⟩;have hQ : ∀ b,b < wA.heap.size -> zeW B vt vs vr vp b -> zeW B (.slice (some ⟨g,0,none⟩) n cap) vs vr vp b:=fun b hb ha=>⟨ha.1,(fun e=>by have e3 : b = g:=Option.some.inj e; subst e3; rcases hat with e | e; exact ha.2.1 e.symm; omega),ha.2.2.1,ha.2.2.2.1,ha.2.2.2.2⟩;have hown:=zdq hown1 hn
 refine ⟨(h.below.grown hgr (by omega) (fun g2 e=>by have:=hG g2 e; omega)).setCell (by simp only; omega) _,⟨hord.1,hord.2.1,by simp [World.setCell]; omega⟩,h.side.trans hS,(h.blk.grown hgr hGo).set_ 0 _,hown.keep ze (zc.set_ _ _ _ (by simp; omega)),
  h.s.far (fun _ _ _ _ _ _=>trivial) ks,
  h.r.far (fun _ _ _ _ _ _=>trivial) kr,
  h.p.far (fun _ _ _ _ _ _=>trivial) kp,
  aws,
  awr,
  awp,
  h.sr,
  h.sp,
  h.rp,
  fun x hx1=>(List.mem_append.1 hx1).elim (fun hx2=>(h.ti x hx2).keep hK hQ) (fun hx2=>(hx x hx2).keep hK hQ),
  fun x hx1=>(h.si x hx1).keep hK hQ⟩
theorem BR.add_s {g n cap : Nat} {ls : List zbn} (h : BR B G w0 W vt vs vr vp tl sl rs ps wA) (hx : ∀ x ∈ ls,zdN (zeW B vt vs vr vp) wA x.value x.s.others)
  (hown1 : w1.ownsRow B 83 6 (.slice (some ⟨g,0,none⟩) n cap) n (sl.flatMap zfZ ++ ls.flatMap zfZ)) (hn : n = sl.length + ls.length) (hgr : wA.grownBy w1 vs.ownBlock) (hat : vs.ownBlock = some g \/ wA.heap.size <= g) :
  BR B G w0 W vt (.slice (some ⟨g,0,none⟩) n cap) vr vp tl (sl ++ ls) rs ps (w1.setCell ⟨G,1,none⟩ (.slice (some ⟨g,0,none⟩) n cap)):=by
 have hG : ∀ g2,vs.ownBlock = some g2 -> B <= g2:=fun g2 e=>(h.s.block_lt e).1;have hord:=h.order;have hsz:=hgr.size;have hGo : some G ≠ vs.ownBlock:=fun e=>by have:=hG G e.symm; omega
 have kt : ∀ g2,vt.ownBlock = some g2 -> (w1.setCell ⟨G,1,none⟩ (.slice (some ⟨g,0,none⟩) n cap)).heap[g2]? = wA.heap[g2]?:=fun g2 e=>zar hgr (h.t.block_lt e).2 (fun e2=>by have:=(h.t.block_lt e).1; omega) (fun e2=>h.ts.symm g2 e2.symm e)
 have awt : apart (.slice (some ⟨g,0,none⟩) n cap) vt:=fun g2 e1 e2=>by
  have e3 : g = g2:=Option.some.inj e1;subst e3;rcases hat with e | e
  ·exact h.ts.symm _ e e2
  ·have:=(h.t.block_lt e2).2; omega
 have kr : ∀ g2,vr.ownBlock = some g2 -> (w1.setCell ⟨G,1,none⟩ (.slice (some ⟨g,0,none⟩) n cap)).heap[g2]? = wA.heap[g2]?:=fun g2 e=>zar hgr (h.r.block_lt e).2 (fun e2=>by have:=(h.r.block_lt e).1; omega) (fun e2=>h.sr g2 e2.symm e)
 have awr : apart (.slice (some ⟨g,0,none⟩) n cap) vr:=fun g2 e1 e2=>by
  have e3 : g = g2:=Option.some.inj e1;subst e3;rcases hat with e | e
  ·exact h.sr _ e e2
  ·have:=(h.r.block_lt e2).2; omega
 have kp : ∀ g2,vp.ownBlock = some g2 -> (w1.setCell ⟨G,1,none⟩ (.slice (some ⟨g,0,none⟩) n cap)).heap[g2]? = wA.heap[g2]?:=fun g2 e=>zar hgr (h.p.block_lt e).2 (fun e2=>by have:=(h.p.block_lt e).1; omega) (fun e2=>h.sp g2 e2.symm e)
 have awp : apart (.slice (some ⟨g,0,none⟩) n cap) vp:=fun g2 e1 e2=>by
  have e3 : g = g2:=Option.some.inj e1;subst e3;rcases hat with e | e
  ·exact h.sp _ e e2
  ·have:=(h.p.block_lt e2).2; omega
 have hK : zc (zeW B vt vs vr vp) wA (w1.setCell ⟨G,1,none⟩ (.slice (some ⟨g,0,none⟩) n cap)):=⟨by simp [World.setCell]; exact hsz,fun b hb ha=>zar hgr hb (fun e=>by have:=ha.1; omega) ha.2.2.1⟩;have hS : zc (fun b=>b < B /\ b ≠ G) wA (w1.setCell ⟨G,1,none⟩ (.slice (some ⟨g,0,none⟩) n cap)):=⟨by simp [World.setCell]; exact hsz,fun b hb ha=>zar hgr hb ha.2 fun e=>by have:=hG b e.symm; omega⟩;have hQ : ∀ b,b < wA.heap.size -> zeW B vt vs vr vp b -> zeW B vt (.slice (some ⟨g,0,none⟩) n cap) vr vp b:=fun b hb ha=>⟨ha.1,ha.2.1,(fun e=>by have e3 : b = g:=Option.some.inj e; subst e3; rcases hat with e | e; exact ha.2.2.1 e.symm; omega),ha.2.2.2.1,ha.2.2.2.2⟩;have hown:=zdq hown1 hn
 refine ⟨(h.below.grown hgr (by omega) (fun g2 e=>by have:=hG g2 e; omega)).setCell (by simp only; omega) _,⟨hord.1,hord.2.1,by simp [World.setCell]; omega⟩,h.side.trans hS,(h.blk.grown hgr hGo).set_ 1 _,h.t.far (fun _ _ _ _ _ _=>trivial) kt,
  hown.keep ze (zc.set_ _ _ _ (by simp; omega)),
  h.r.far (fun _ _ _ _ _ _=>trivial) kr,
  h.p.far (fun _ _ _ _ _ _=>trivial) kp,
  awt.symm,
  h.tr,
  h.tp,
  awr,
  awp,
  h.rp,
  fun x hx1=>(h.ti x hx1).keep hK hQ,
  fun x hx1=>(List.mem_append.1 hx1).elim (fun hx2=>(h.si x hx2).keep hK hQ) (fun hx2=>(hx x hx2).keep hK hQ)⟩
theorem BR.add_r {g n cap : Nat} {ls : List zj} (h : BR B G w0 W vt vs vr vp tl sl rs ps wA)
  (hown1 : w1.ownsRow B 72 7 (.slice (some ⟨g,0,none⟩) n cap) n (rs.flatMap zbN ++ ls.flatMap zbN)) (hn : n = rs.length + ls.length) (hgr : wA.grownBy w1 vr.ownBlock) (hat : vr.ownBlock = some g \/ wA.heap.size <= g) :
  BR B G w0 W vt vs (.slice (some ⟨g,0,none⟩) n cap) vp tl sl (rs ++ ls) ps (w1.setCell ⟨G,2,none⟩ (.slice (some ⟨g,0,none⟩) n cap)):=by
 have hG : ∀ g2,vr.ownBlock = some g2 -> B <= g2:=fun g2 e=>(h.r.block_lt e).1;have hord:=h.order;have hsz:=hgr.size;have hGo : some G ≠ vr.ownBlock:=fun e=>by have:=hG G e.symm; omega
 have kt : ∀ g2,vt.ownBlock = some g2 -> (w1.setCell ⟨G,2,none⟩ (.slice (some ⟨g,0,none⟩) n cap)).heap[g2]? = wA.heap[g2]?:=fun g2 e=>zar hgr (h.t.block_lt e).2 (fun e2=>by have:=(h.t.block_lt e).1; omega) (fun e2=>h.tr.symm g2 e2.symm e)
 have awt : apart (.slice (some ⟨g,0,none⟩) n cap) vt:=fun g2 e1 e2=>by
  have e3 : g = g2:=Option.some.inj e1;subst e3;rcases hat with e | e
  ·exact h.tr.symm _ e e2
  ·have:=(h.t.block_lt e2).2; omega
 have ks : ∀ g2,vs.ownBlock = some g2 -> (w1.setCell ⟨G,2,none⟩ (.slice (some ⟨g,0,none⟩) n cap)).heap[g2]? = wA.heap[g2]?:=fun g2 e=>zar hgr (h.s.block_lt e).2 (fun e2=>by have:=(h.s.block_lt e).1; omega) (fun e2=>h.sr.symm g2 e2.symm e)
 have aws : apart (.slice (some ⟨g,0,none⟩) n cap) vs:=fun g2 e1 e2=>by
  have e3 : g = g2:=Option.some.inj e1;subst e3;rcases hat with e | e
  ·exact h.sr.symm _ e e2
  ·have:=(h.s.block_lt e2).2; omega
 have kp : ∀ g2,vp.ownBlock = some g2 -> (w1.setCell ⟨G,2,none⟩ (.slice (some ⟨g,0,none⟩) n cap)).heap[g2]? = wA.heap[g2]?:=fun g2 e=>zar hgr (h.p.block_lt e).2 (fun e2=>by have:=(h.p.block_lt e).1; omega) (fun e2=>h.rp g2 e2.symm e)
 have awp : apart (.slice (some ⟨g,0,none⟩) n cap) vp:=fun g2 e1 e2=>by
  have e3 : g = g2:=Option.some.inj e1;subst e3;rcases hat with e | e
  ·exact h.rp _ e e2
  ·have:=(h.p.block_lt e2).2; omega
 have hK : zc (zeW B vt vs vr vp) wA (w1.setCell ⟨G,2,none⟩ (.slice (some ⟨g,0,none⟩) n cap)):=⟨by simp [World.setCell]; exact hsz,fun b hb ha=>zar hgr hb (fun e=>by have:=ha.1; omega) ha.2.2.2.1⟩;have hS : zc (fun b=>b < B /\ b ≠ G) wA (w1.setCell ⟨G,2,none⟩ (.slice (some ⟨g,0,none⟩) n cap)):=⟨by simp [World.setCell]; exact hsz,fun b hb ha=>zar hgr hb ha.2 fun e=>by have:=hG b e.symm; omega⟩;have hQ : ∀ b,b < wA.heap.size -> zeW B vt vs vr vp b -> zeW B vt vs (.slice (some ⟨g,0,none⟩) n cap) vp b:=fun b hb ha=>⟨ha.1,ha.2.1,ha.2.2.1,(fun e=>by have e3 : b = g:=Option.some.inj e; subst e3; rcases hat with e | e; exact ha.2.2.2.1 e.symm; omega),ha.2.2.2.2⟩;have hown:=zdq hown1 hn
 refine ⟨(h.below.grown hgr (by omega) (fun g2 e=>by have:=hG g2 e; omega)).setCell (by simp only; omega) _,⟨hord.1,hord.2.1,by simp [World.setCell]; omega⟩,h.side.trans hS,(h.blk.grown hgr hGo).set_ 2 _,h.t.far (fun _ _ _ _ _ _=>trivial) kt,
  h.s.far (fun _ _ _ _ _ _=>trivial) ks,
  hown.keep ze (zc.set_ _ _ _ (by simp; omega)),
  h.p.far (fun _ _ _ _ _ _=>trivial) kp,
  h.ts,
  awt.symm,
  h.tp,
  aws.symm,
  h.sp,
  awp,
  fun x hx1=>(h.ti x hx1).keep hK hQ,
  fun x hx1=>(h.si x hx1).keep hK hQ⟩
theorem BR.add_p {g n cap : Nat} {ls : List zh} (h : BR B G w0 W vt vs vr vp tl sl rs ps wA)
  (hown1 : w1.ownsRow B 33 8 (.slice (some ⟨g,0,none⟩) n cap) n (ps.flatMap zds ++ ls.flatMap zds)) (hn : n = ps.length + ls.length) (hgr : wA.grownBy w1 vp.ownBlock) (hat : vp.ownBlock = some g \/ wA.heap.size <= g) :
  BR B G w0 W vt vs vr (.slice (some ⟨g,0,none⟩) n cap) tl sl rs (ps ++ ls) (w1.setCell ⟨G,3,none⟩ (.slice (some ⟨g,0,none⟩) n cap)):=by
 have hG : ∀ g2,vp.ownBlock = some g2 -> B <= g2:=fun g2 e=>(h.p.block_lt e).1;have hord:=h.order;have hsz:=hgr.size;have hGo : some G ≠ vp.ownBlock:=fun e=>by have:=hG G e.symm; omega
 have kt : ∀ g2,vt.ownBlock = some g2 -> (w1.setCell ⟨G,3,none⟩ (.slice (some ⟨g,0,none⟩) n cap)).heap[g2]? = wA.heap[g2]?:=fun g2 e=>zar hgr (h.t.block_lt e).2 (fun e2=>by have:=(h.t.block_lt e).1; omega) (fun e2=>h.tp.symm g2 e2.symm e)
 have awt : apart (.slice (some ⟨g,0,none⟩) n cap) vt:=fun g2 e1 e2=>by
  have e3 : g = g2:=Option.some.inj e1;subst e3;rcases hat with e | e
  ·exact h.tp.symm _ e e2
  ·have:=(h.t.block_lt e2).2; omega
 have ks : ∀ g2,vs.ownBlock = some g2 -> (w1.setCell ⟨G,3,none⟩ (.slice (some ⟨g,0,none⟩) n cap)).heap[g2]? = wA.heap[g2]?:=fun g2 e=>zar hgr (h.s.block_lt e).2 (fun e2=>by have:=(h.s.block_lt e).1; omega) (fun e2=>h.sp.symm g2 e2.symm e)
 have aws : apart (.slice (some ⟨g,0,none⟩) n cap) vs:=fun g2 e1 e2=>by
  have e3 : g = g2:=Option.some.inj e1;subst e3;rcases hat with e | e
  ·exact h.sp.symm _ e e2
  ·have:=(h.s.block_lt e2).2; omega
 have kr : ∀ g2,vr.ownBlock = some g2 -> (w1.setCell ⟨G,3,none⟩ (.slice (some ⟨g,0,none⟩) n cap)).heap[g2]? = wA.heap[g2]?:=fun g2 e=>zar hgr (h.r.block_lt e).2 (fun e2=>by have:=(h.r.block_lt e).1; omega) (fun e2=>h.rp.symm g2 e2.symm e)
 have awr : apart (.slice (some ⟨g,0,none⟩) n cap) vr:=fun g2 e1 e2=>by
  have e3 : g = g2:=Option.some.inj e1;subst e3;rcases hat with e | e
  ·exact h.rp.symm _ e e2
  ·have:=(h.r.block_lt e2).2; omega
 have hK : zc (zeW B vt vs vr vp) wA (w1.setCell ⟨G,3,none⟩ (.slice (some ⟨g,0,none⟩) n cap)):=⟨by simp [World.setCell]; exact hsz,fun b hb ha=>zar hgr hb (fun e=>by have:=ha.1; omega) ha.2.2.2.2⟩;have hS : zc (fun b=>b < B /\ b ≠ G) wA (w1.setCell ⟨G,3,none⟩ (.slice (some ⟨g,0,none⟩) n cap)):=⟨by simp [World.setCell]; exact hsz,fun b hb ha=>zar hgr hb ha.2 fun e=>by have:=hG b e.symm; omega⟩;have hQ : ∀ b,b < wA.heap.size -> zeW B vt vs vr vp b -> zeW B vt vs vr (.slice (some ⟨g,0,none⟩) n cap) b:=fun b hb ha=>⟨ha.1,ha.2.1,ha.2.2.1,ha.2.2.2.1,(fun e=>by have e3 : b = g:=Option.some.inj e; subst e3; rcases hat with e | e; exact ha.2.2.2.2 e.symm; omega)⟩;have hown:=zdq hown1 hn
 refine ⟨(h.below.grown hgr (by omega) (fun g2 e=>by have:=hG g2 e; omega)).setCell (by simp only; omega) _,⟨hord.1,hord.2.1,by simp [World.setCell]; omega⟩,h.side.trans hS,(h.blk.grown hgr hGo).set_ 3 _,h.t.far (fun _ _ _ _ _ _=>trivial) kt,
  h.s.far (fun _ _ _ _ _ _=>trivial) ks,
  h.r.far (fun _ _ _ _ _ _=>trivial) kr,
  hown.keep ze (zc.set_ _ _ _ (by simp; omega)),
  h.ts,
  h.tr,
  awt.symm,
  h.sr,
  aws.symm,
  awr.symm,
  fun x hx1=>(h.ti x hx1).keep hK hQ,
  fun x hx1=>(h.si x hx1).keep hK hQ⟩
theorem BR.refer (h : BR B G w0 W vt vs vr vp tl sl rs ps w) : zaf w vt vs vr vp ⟨tl.map zcG.t,sl.map zbn.s,rs,ps⟩ where
 t:=by
  unfold zfH;rw [List.length_map]
  exact (h.t.sl (fun _=>rfl)).plain fun b off i _ _ hi hc=>by
   obtain ⟨-,-,hc⟩:=hc;have e : (tl.map zcG.t).getD i zJ.zero = tl[i].t:=by rw [zD _ _ _ (by rw [List.length_map]; exact hi),List.getElem_map]
   refine ⟨tl[i].value,?_⟩;simp only;rw [e];exact ⟨hc hi 0 (by omega),hc hi 1 (by omega),hc hi 2 (by omega),hc hi 3 (by omega),hc hi 4 (by omega),(h.ti _ (List.getElem_mem hi)).texts⟩
 s:=by
  unfold zft;rw [List.length_map]
  exact (h.s.sl (fun _=>rfl)).plain fun b off i _ _ hi hc=>by
   obtain ⟨-,-,hc⟩:=hc;have e : (sl.map zbn.s).getD i zz.zero = sl[i].s:=by rw [zD _ _ _ (by rw [List.length_map]; exact hi),List.getElem_map]
   refine ⟨sl[i].value,?_⟩;simp only;rw [e];exact ⟨hc hi 0 (by omega),hc hi 1 (by omega),hc hi 2 (by omega),hc hi 3 (by omega),hc hi 4 (by omega),hc hi 5 (by omega),(h.si _ (List.getElem_mem hi)).texts⟩
 r:=(h.r.sl (fun _=>rfl)).plain fun b off i _ _ hi hc=>by
  obtain ⟨-,-,hc⟩:=hc;rw [zD _ _ _ hi];exact ⟨hc hi 0 (by omega),hc hi 1 (by omega),hc hi 2 (by omega),hc hi 3 (by omega),hc hi 4 (by omega),hc hi 5 (by omega),hc hi 6 (by omega)⟩
 p:=(h.p.sl (fun _=>rfl)).plain fun b off i _ _ hi hc=>by
  obtain ⟨-,-,hc⟩:=hc;rw [zD _ _ _ hi];exact ⟨hc hi 0 (by omega),hc hi 1 (by omega),hc hi 2 (by omega),hc hi 3 (by omega),hc hi 4 (by omega),hc hi 5 (by omega),hc hi 6 (by omega),hc hi 7 (by omega)⟩
theorem BR.nil (hG : Blk w G 31 #[.slice none 0 0,.slice none 0 0,.slice none 0 0,.slice none 0 0]) (hb : Below w0.heap.size w0 w) (h0 : w0.heap.size <= G) (h1 : G < B) (h2 : B <= w.heap.size) : BR B G w0 w (.slice none 0 0) (.slice none 0 0) (.slice none 0 0) (.slice none 0 0) [] [] [] [] w where
  below:=hb
  order:=⟨h0,h1,h2⟩
  side:=⟨lQ _,fun _ _ _=>rfl⟩
  blk:=hG
  t:=zaw.nil_
  s:=zaw.nil_
  r:=zaw.nil_
  p:=zaw.nil_
  ts:=fun _ h=>by cases h
  tr:=fun _ h=>by cases h
  tp:=fun _ h=>by cases h
  sr:=fun _ h=>by cases h
  sp:=fun _ h=>by cases h
  rp:=fun _ h=>by cases h
  ti:=fun _ h=>by cases h
  si:=fun _ h=>by cases h
end
end
end Go.Proofs.YtggimnndflkjkaaGreatDoor
