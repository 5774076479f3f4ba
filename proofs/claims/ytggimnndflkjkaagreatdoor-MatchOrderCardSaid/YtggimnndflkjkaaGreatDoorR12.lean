import Derived.Test.YtggimnndflkjkaaGreatDoorR01
import Derived.Test.YtggimnndflkjkaaGreatDoorR11
set_option linter.all false
set_option maxRecDepth 100000
set_option maxHeartbeats 0
namespace Go.Proofs.YtggimnndflkjkaaGreatDoor
section
open Go.RowKit Go.Maps
abbrev zsk:=zJ × Value
def zjg (p : zsk) : Value:=.agg (zcB p.1 p.2)
def zoY (g : zj) : List Value:=[.int .i64 g.town,.int .i64 g.street,.int .i64 g.low,.int .i64 g.high,.int .u8 g.parity,.string g.code,.int .i64 g.route]
abbrev zbx:=zaw 72 7 zoY zdp
structure zml (B : Nat) (w : World) (M : List ((Int × Int) × Value)) (rs : List zj) : Prop where
 row : ∀ key,zbx B w (orV id (.slice none 0 0) (zbR key M)) (rs.filter fun g=>decide ((g.town,g.street) = key))
 apart : ∀ k1 k2 v1 v2 g,k1 ≠ k2 -> zbR k1 M = some v1 -> zbR k2 M = some v2 -> v1.ownBlock = some g -> v2.ownBlock ≠ some g
structure zhr where
 towns : List zsk
 ttexts : List zdb
 streets : List (Int × Int)
 labels : List zdb
 points : List Int
 addrs : List zgp
 places : List (Int × Int)
def yes {α : Type} (a : α) : α × Bool:=(a,true)
structure CS (w0 : World) (N n : Nat) (w : World) (L : zhr) (M4 : List ((Int × Int) × Value)) (rs : List zj) : Prop where
 base : w0.heap.size <= N
 below : Below w0.heap.size w0 w
 blk : Blk w (N + 8) 194 #[.map (some N),.map (some (N + 1)),.map (some (N + 2)),.map (some (N + 3)),.map (some (N + 4)),.map (some (N + 5)),.map (some (N + 6)),.map (some (N + 7))]
 m0 : zbc Tryz.prog 3 zY zjg w N n (L.towns.map fun p=>(p.1.id,p))
 m1 : zbc Tryz.prog 197 zbh Value.bool w (N + 1) n (L.ttexts.map yes)
 m2 : zbc Tryz.prog 3 zY zY w (N + 2) n L.streets
 m3 : zbc Tryz.prog 197 zbh Value.bool w (N + 3) n (L.labels.map yes)
 m4 : zbc Tryz.prog 202 zbU (@id Value) w (N + 4) n M4
 m5 : zbc Tryz.prog 3 zY Value.bool w (N + 5) n (L.points.map yes)
 m6 : zbc Tryz.prog 206 zdX Value.bool w (N + 6) n (L.addrs.map yes)
 m7 : zbc Tryz.prog 202 zbU Value.bool w (N + 7) n (L.places.map yes)
 tx : ∀ p ∈ L.towns,zan w0 p.2 p.1.codes
 rows : zml (N + 9) w M4 rs
theorem zgR {α : Type} [DecidableEq α] (a : α) : ∀ l : List α,orV Value.bool (.bool false) (zbR a (l.map yes)) = .bool (zcg a l)
 | []=>rfl
 | x :: t=>by
  rw [List.map_cons,zbR];by_cases h : x = a
  ·subst h; simp [yes,orV,zcg]
  ·rw [if_neg (show ¬ (yes x).1 = a from h),zgR a t]
   unfold zcg;rw [List.any_cons,decide_eq_false h]; rfl
theorem zaw.below {α : Type} {E : TypeId} {k : Nat} {cells : α -> List Value} {I : (Nat -> Prop) -> World -> α -> Prop} {base B : Nat} {w w' : World} {v : Value} {ps : List α} (hI : zjL I) (h : zaw E k cells I base w v ps) (hb : Below B w w') (hB : w.heap.size <= B) : zaw E k cells I base w' v ps:=
 h.keep hI (zc.of_below (hb.mono hB) _)
theorem CS.up {w0 w w' : World} {N n : Nat} {L : zhr} {M4 : List ((Int × Int) × Value)} {rs : List zj} (h : CS w0 N n w L M4 rs) (hb : Below w.heap.size w w') : CS w0 N n w' L M4 rs where
 base:=h.base
 below:=h.below.trans (hb.mono h.below.size)
 blk:=h.blk.below hb h.blk.lt
 m0:=h.m0.below hb h.m0.lt
 m1:=h.m1.below hb h.m1.lt
 m2:=h.m2.below hb h.m2.lt
 m3:=h.m3.below hb h.m3.lt
 m4:=h.m4.below hb h.m4.lt
 m5:=h.m5.below hb h.m5.lt
 m6:=h.m6.below hb h.m6.lt
 m7:=h.m7.below hb h.m7.lt
 tx:=h.tx
 rows:=⟨fun key=>(h.rows.row key).keep ze (zc.of_below hb _),h.rows.apart⟩
theorem CS.mono {w0 w : World} {N n n' : Nat} {L : zhr} {M4 : List ((Int × Int) × Value)} {rs : List zj} (h : CS w0 N n w L M4 rs) (hn : n <= n') : CS w0 N n' w L M4 rs where
 base:=h.base
 below:=h.below
 blk:=h.blk
 m0:=h.m0.mono hn
 m1:=h.m1.mono hn
 m2:=h.m2.mono hn
 m3:=h.m3.mono hn
 m4:=h.m4.mono hn
 m5:=h.m5.mono hn
 m6:=h.m6.mono hn
 m7:=h.m7.mono hn
 tx:=h.tx
 rows:=h.rows
def zhr.none : zhr:=⟨[],[],[],[],[],[],[]⟩
theorem znz (w : World) : Calls Tryz.prog 72 #[] w fun e w'=>e = .returned (.pointer (some ⟨w.heap.size + 8,0,Option.none⟩)) /\ CS w w.heap.size 0 w' zhr.none [] []:=by
 have m0:=zbc.made_at Tryz.prog 3 zY zjg w w.heap.size (by simp)
 replace m0:=m0.alloc (.map #[] 0)
 replace m0:=m0.alloc (.map #[] 0)
 replace m0:=m0.alloc (.map #[] 0)
 replace m0:=m0.alloc (.map #[] 0)
 replace m0:=m0.alloc (.map #[] 0)
 replace m0:=m0.alloc (.map #[] 0)
 replace m0:=m0.alloc (.map #[] 0)
 replace m0:=m0.alloc (.cells #[.map (some w.heap.size),.map (some (w.heap.size + 1)),.map (some (w.heap.size + 2)),.map (some (w.heap.size + 3)),.map (some (w.heap.size + 4)),.map (some (w.heap.size + 5)),.map (some (w.heap.size + 6)),.map (some (w.heap.size + 7))] 194)
 have m1:=zbc.made_at Tryz.prog 197 zbh Value.bool (w.alloc (.map #[] 0)) (w.heap.size + 1) (by simp)
 replace m1:=m1.alloc (.map #[] 0)
 replace m1:=m1.alloc (.map #[] 0)
 replace m1:=m1.alloc (.map #[] 0)
 replace m1:=m1.alloc (.map #[] 0)
 replace m1:=m1.alloc (.map #[] 0)
 replace m1:=m1.alloc (.map #[] 0)
 replace m1:=m1.alloc (.cells #[.map (some w.heap.size),.map (some (w.heap.size + 1)),.map (some (w.heap.size + 2)),.map (some (w.heap.size + 3)),.map (some (w.heap.size + 4)),.map (some (w.heap.size + 5)),.map (some (w.heap.size + 6)),.map (some (w.heap.size + 7))] 194)
 have m2:=zbc.made_at Tryz.prog 3 zY zY ((w.alloc (.map #[] 0)).alloc (.map #[] 0)) (w.heap.size + 2) (by simp)
 replace m2:=m2.alloc (.map #[] 0)
 replace m2:=m2.alloc (.map #[] 0)
 replace m2:=m2.alloc (.map #[] 0)
 replace m2:=m2.alloc (.map #[] 0)
 replace m2:=m2.alloc (.map #[] 0)
 replace m2:=m2.alloc (.cells #[.map (some w.heap.size),.map (some (w.heap.size + 1)),.map (some (w.heap.size + 2)),.map (some (w.heap.size + 3)),.map (some (w.heap.size + 4)),.map (some (w.heap.size + 5)),.map (some (w.heap.size + 6)),.map (some (w.heap.size + 7))] 194)
 have m3:=zbc.made_at Tryz.prog 197 zbh Value.bool (((w.alloc (.map #[] 0)).alloc (.map #[] 0)).alloc (.map #[] 0)) (w.heap.size + 3) (by simp)
 replace m3:=m3.alloc (.map #[] 0)
 replace m3:=m3.alloc (.map #[] 0)
 replace m3:=m3.alloc (.map #[] 0)
 replace m3:=m3.alloc (.map #[] 0)
 replace m3:=m3.alloc (.cells #[.map (some w.heap.size),.map (some (w.heap.size + 1)),.map (some (w.heap.size + 2)),.map (some (w.heap.size + 3)),.map (some (w.heap.size + 4)),.map (some (w.heap.size + 5)),.map (some (w.heap.size + 6)),.map (some (w.heap.size + 7))] 194)
 have m4:=zbc.made_at Tryz.prog 202 zbU (@id Value) ((((w.alloc (.map #[] 0)).alloc (.map #[] 0)).alloc (.map #[] 0)).alloc (.map #[] 0)) (w.heap.size + 4) (by simp)
 replace m4:=m4.alloc (.map #[] 0)
 replace m4:=m4.alloc (.map #[] 0)
 replace m4:=m4.alloc (.map #[] 0)
 replace m4:=m4.alloc (.cells #[.map (some w.heap.size),.map (some (w.heap.size + 1)),.map (some (w.heap.size + 2)),.map (some (w.heap.size + 3)),.map (some (w.heap.size + 4)),.map (some (w.heap.size + 5)),.map (some (w.heap.size + 6)),.map (some (w.heap.size + 7))] 194)
 have m5:=zbc.made_at Tryz.prog 3 zY Value.bool (((((w.alloc (.map #[] 0)).alloc (.map #[] 0)).alloc (.map #[] 0)).alloc (.map #[] 0)).alloc (.map #[] 0)) (w.heap.size + 5) (by simp)
 replace m5:=m5.alloc (.map #[] 0)
 replace m5:=m5.alloc (.map #[] 0)
 replace m5:=m5.alloc (.cells #[.map (some w.heap.size),.map (some (w.heap.size + 1)),.map (some (w.heap.size + 2)),.map (some (w.heap.size + 3)),.map (some (w.heap.size + 4)),.map (some (w.heap.size + 5)),.map (some (w.heap.size + 6)),.map (some (w.heap.size + 7))] 194)
 have m6:=zbc.made_at Tryz.prog 206 zdX Value.bool ((((((w.alloc (.map #[] 0)).alloc (.map #[] 0)).alloc (.map #[] 0)).alloc (.map #[] 0)).alloc (.map #[] 0)).alloc (.map #[] 0)) (w.heap.size + 6) (by simp)
 replace m6:=m6.alloc (.map #[] 0)
 replace m6:=m6.alloc (.cells #[.map (some w.heap.size),.map (some (w.heap.size + 1)),.map (some (w.heap.size + 2)),.map (some (w.heap.size + 3)),.map (some (w.heap.size + 4)),.map (some (w.heap.size + 5)),.map (some (w.heap.size + 6)),.map (some (w.heap.size + 7))] 194)
 have m7:=zbc.made_at Tryz.prog 202 zbU Value.bool (((((((w.alloc (.map #[] 0)).alloc (.map #[] 0)).alloc (.map #[] 0)).alloc (.map #[] 0)).alloc (.map #[] 0)).alloc (.map #[] 0)).alloc (.map #[] 0)) (w.heap.size + 7) (by simp)
 replace m7:=m7.alloc (.cells #[.map (some w.heap.size),.map (some (w.heap.size + 1)),.map (some (w.heap.size + 2)),.map (some (w.heap.size + 3)),.map (some (w.heap.size + 4)),.map (some (w.heap.size + 5)),.map (some (w.heap.size + 6)),.map (some (w.heap.size + 7))] 194)
 have kB:=Blk.new_at ((((((((w.alloc (.map #[] 0)).alloc (.map #[] 0)).alloc (.map #[] 0)).alloc (.map #[] 0)).alloc (.map #[] 0)).alloc (.map #[] 0)).alloc (.map #[] 0)).alloc (.map #[] 0)) 194 #[.map (some w.heap.size),.map (some (w.heap.size + 1)),.map (some (w.heap.size + 2)),.map (some (w.heap.size + 3)),.map (some (w.heap.size + 4)),.map (some (w.heap.size + 5)),.map (some (w.heap.size + 6)),.map (some (w.heap.size + 7))] (w.heap.size + 8) (by simp);have hb : Below w.heap.size w (((((((((w.alloc (.map #[] 0)).alloc (.map #[] 0)).alloc (.map #[] 0)).alloc (.map #[] 0)).alloc (.map #[] 0)).alloc (.map #[] 0)).alloc (.map #[] 0)).alloc (.map #[] 0)).alloc (.cells #[.map (some w.heap.size),.map (some (w.heap.size + 1)),.map (some (w.heap.size + 2)),.map (some (w.heap.size + 3)),.map (some (w.heap.size + 4)),.map (some (w.heap.size + 5)),.map (some (w.heap.size + 6)),.map (some (w.heap.size + 7))] 194)):=(((((((((Below.refl _ _).alloc (lQ _) _).alloc (by simp <;> omega) _).alloc (by simp <;> omega) _).alloc (by simp <;> omega) _).alloc (by simp <;> omega) _).alloc (by simp <;> omega) _).alloc (by simp <;> omega) _).alloc (by simp <;> omega) _).alloc (by simp <;> omega) _;have hcs:=Hd (CS.mk (L:=zhr.none) (M4:=[]) (rs:=[]) (n:=0) (lQ _) hb kB m0 m1 m2 m3 m4 m5 m6 m7 (fun _ h=>by cases h) ⟨fun _=>zaw.nil_,fun _ _ _ _ _ _ h=>by cases h⟩);have hmk:=@run_makeMap Tryz.prog;clear hb kB m0 m1 m2 m3 m4 m5 m6 m7;go_enter Tryz.func72,Tryz.ntmps72;go_wp2;go_ret;exact ⟨rfl,hcs.out⟩
end
section
open Go.RowKit Go.Maps
def zcE (S : List (Int × Int)) (street town : Int) : Bool:=decide (street = 0) || decide (zbR street S = some town)
variable {w0 w : World} {N n : Nat} {L : zhr} {M4 : List ((Int × Int) × Value)} {rs : List zj}
theorem zow (h : CS w0 N n w L M4 rs) (street town : Int) (hs : zam street) : Calls Tryz.prog 119 #[.pointer (some ⟨N + 8,0,none⟩),.int .i64 street,.int .i64 town] w fun e w'=>e = .returned (.bool (zcE L.streets street town)) /\ w' = w:=by
 have hd : Hid (zcE L.streets street town = (decide (street = 0) || decide (zbR street L.streets = some town))):=Hd rfl;have hk:=h.m2.look_ok zdf Tryz.underlying67 (zzb w) street (zaJ street hs);have c2:=h.blk.cell 2;have lB:=h.blk.lt;simp at c2;clear h;generalize zcE L.streets street town = r at *;generalize zbR street L.streets = g at *;simp only [zY] at hk;by_cases h0 : street = 0
 ·subst h0
  cases g with
  | none=>
   simp only [orV,Option.isSome] at hk;go_enter Tryz.func119,Tryz.ntmps119;go_wp2;go_ret;exact ⟨zf (by rw [hd.out]; first | done | simp),rfl⟩
  | some t=>
   simp only [orV,Option.isSome,zY] at hk;go_enter Tryz.func119,Tryz.ntmps119;go_wp2;go_ret;exact ⟨zf (by rw [hd.out]; first | done | simp),rfl⟩
 ·have e0 : (street == 0) = false:=by simpa using h0
  rw [decide_eq_false h0] at hd;clear h0
  cases g with
  | none=>
   simp only [orV,Option.isSome] at hk;go_enter Tryz.func119,Tryz.ntmps119;go_wp2;go_ret;exact ⟨zf (by rw [hd.out]; first | done | simp),rfl⟩
  | some t=>
   simp only [orV,Option.isSome,zY] at hk;have hd2 : Hid (r = (t == town)):=Hd (by rw [hd.out]; by_cases h : t = town <;> simp [h]);clear hd;go_enter Tryz.func119,Tryz.ntmps119;go_wp2;go_ret;exact ⟨zf hd2.out.symm,rfl⟩
theorem zeQ {B : Nat} {w w' : World} {M : List ((Int × Int) × Value)} {rs : List zj} (h : zml B w M rs) {b : Nat} (hg : w.grownBy w' (some b)) (hb : b < B) : zml B w' M rs:=
 ⟨fun key=>(h.row key).keep ze (zc.of_grown hg fun c hc e=>by injection e with e; omega),h.apart⟩
theorem CS.grown {w' : World} (h : CS w0 N n w L M4 rs) (k : Nat) (hk : k < 8) (hg : w.grownBy w' (some (N + k))) (L' : zhr) (M4' : List ((Int × Int) × Value)) (rs' : List zj)
  (h0 : zbc Tryz.prog 3 zY zjg w' (N + 0) (n + 1) (L'.towns.map fun p=>(p.1.id,p)))
  (h1 : zbc Tryz.prog 197 zbh Value.bool w' (N + 1) (n + 1) (L'.ttexts.map yes))
  (h2 : zbc Tryz.prog 3 zY zY w' (N + 2) (n + 1) L'.streets)
  (h3 : zbc Tryz.prog 197 zbh Value.bool w' (N + 3) (n + 1) (L'.labels.map yes))
  (h4 : zbc Tryz.prog 202 zbU (@id Value) w' (N + 4) (n + 1) M4')
  (h5 : zbc Tryz.prog 3 zY Value.bool w' (N + 5) (n + 1) (L'.points.map yes))
  (h6 : zbc Tryz.prog 206 zdX Value.bool w' (N + 6) (n + 1) (L'.addrs.map yes))
  (h7 : zbc Tryz.prog 202 zbU Value.bool w' (N + 7) (n + 1) (L'.places.map yes))
  (htx : ∀ p ∈ L'.towns,zan w0 p.2 p.1.codes) (hrows : zml (N + 9) w' M4' rs') : CS w0 N (n + 1) w' L' M4' rs' where
 base:=h.base
 below:=h.below.grown hg h.below.size (fun j e=>by injection e with e; have:=h.base; omega)
 blk:=(hg.block _ h.blk.lt (by intro e; injection e with e; omega)).trans h.blk
 m0:=h0
 m1:=h1
 m2:=h2
 m3:=h3
 m4:=h4
 m5:=h5
 m6:=h6
 m7:=h7
 tx:=htx
 rows:=hrows
theorem CS.kept0 {w' : World} (h : CS w0 N n w L M4 rs) {j : Nat} (hg : w.grownBy w' (some (N + j))) (hj : j ≠ 0) : zbc Tryz.prog 3 zY zjg w' (N + 0) (n + 1) (L.towns.map fun p=>(p.1.id,p)):=(h.m0.kept hg (by intro e; injection e with e; omega)).mono (by omega)
theorem CS.kept1 {w' : World} (h : CS w0 N n w L M4 rs) {j : Nat} (hg : w.grownBy w' (some (N + j))) (hj : j ≠ 1) : zbc Tryz.prog 197 zbh Value.bool w' (N + 1) (n + 1) (L.ttexts.map yes):=(h.m1.kept hg (by intro e; injection e with e; omega)).mono (by omega)
theorem CS.kept2 {w' : World} (h : CS w0 N n w L M4 rs) {j : Nat} (hg : w.grownBy w' (some (N + j))) (hj : j ≠ 2) : zbc Tryz.prog 3 zY zY w' (N + 2) (n + 1) L.streets:=(h.m2.kept hg (by intro e; injection e with e; omega)).mono (by omega)
theorem CS.kept3 {w' : World} (h : CS w0 N n w L M4 rs) {j : Nat} (hg : w.grownBy w' (some (N + j))) (hj : j ≠ 3) : zbc Tryz.prog 197 zbh Value.bool w' (N + 3) (n + 1) (L.labels.map yes):=(h.m3.kept hg (by intro e; injection e with e; omega)).mono (by omega)
theorem CS.kept5 {w' : World} (h : CS w0 N n w L M4 rs) {j : Nat} (hg : w.grownBy w' (some (N + j))) (hj : j ≠ 5) : zbc Tryz.prog 3 zY Value.bool w' (N + 5) (n + 1) (L.points.map yes):=(h.m5.kept hg (by intro e; injection e with e; omega)).mono (by omega)
theorem CS.kept6 {w' : World} (h : CS w0 N n w L M4 rs) {j : Nat} (hg : w.grownBy w' (some (N + j))) (hj : j ≠ 6) : zbc Tryz.prog 206 zdX Value.bool w' (N + 6) (n + 1) (L.addrs.map yes):=(h.m6.kept hg (by intro e; injection e with e; omega)).mono (by omega)
theorem CS.kept7 {w' : World} (h : CS w0 N n w L M4 rs) {j : Nat} (hg : w.grownBy w' (some (N + j))) (hj : j ≠ 7) : zbc Tryz.prog 202 zbU Value.bool w' (N + 7) (n + 1) (L.places.map yes):=(h.m7.kept hg (by intro e; injection e with e; omega)).mono (by omega)
theorem CS.kept4 {w' : World} (h : CS w0 N n w L M4 rs) {j : Nat} (hg : w.grownBy w' (some (N + j))) (hj : j ≠ 4) : zbc Tryz.prog 202 zbU (@id Value) w' (N + 4) (n + 1) M4:=(h.m4.kept hg (by intro e; injection e with e; omega)).mono (by omega)
theorem CS.put3 {w' : World} {a : zdb} (h : CS w0 N n w L M4 rs) (hm : zbc Tryz.prog 197 zbh Value.bool w' (N + 3) (n + 1) ((a,true) :: L.labels.map yes)) (hg : w.grownBy w' (some (N + 3))) : CS w0 N (n + 1) w' { L with labels:=a :: L.labels } M4 rs:=
 h.grown 3 (by omega) hg { L with labels:=a :: L.labels } M4 rs (h.kept0 hg (by omega)) (h.kept1 hg (by omega)) (h.kept2 hg (by omega)) hm (h.kept4 hg (by omega)) (h.kept5 hg (by omega)) (h.kept6 hg (by omega)) (h.kept7 hg (by omega)) h.tx (zeQ h.rows hg (by omega))
theorem CS.put0 {w' : World} {p : zsk} (h : CS w0 N n w L M4 rs) (hx : zan w0 p.2 p.1.codes) (hm : zbc Tryz.prog 3 zY zjg w' N (n + 1) ((p.1.id,p) :: L.towns.map fun p=>(p.1.id,p))) (hg : w.grownBy w' (some N)) : CS w0 N (n + 1) w' { L with towns:=p :: L.towns } M4 rs:=
 h.grown 0 (by omega) hg { L with towns:=p :: L.towns } M4 rs hm (h.kept1 (j:=0) hg (by omega)) (h.kept2 (j:=0) hg (by omega)) (h.kept3 (j:=0) hg (by omega)) (h.kept4 (j:=0) hg (by omega)) (h.kept5 (j:=0) hg (by omega)) (h.kept6 (j:=0) hg (by omega)) (h.kept7 (j:=0) hg (by omega)) (fun q hq=>by
  rcases List.mem_cons.1 hq with rfl | hq
  ·exact hx
  ·exact h.tx q hq) (zeQ h.rows hg (by omega))
theorem CS.put1 {w' : World} {a : zdb} (h : CS w0 N n w L M4 rs) (hm : zbc Tryz.prog 197 zbh Value.bool w' (N + 1) (n + 1) ((a,true) :: L.ttexts.map yes)) (hg : w.grownBy w' (some (N + 1))) : CS w0 N (n + 1) w' { L with ttexts:=a :: L.ttexts } M4 rs:=
 h.grown 1 (by omega) hg { L with ttexts:=a :: L.ttexts } M4 rs (h.kept0 hg (by omega)) hm (h.kept2 hg (by omega)) (h.kept3 hg (by omega)) (h.kept4 hg (by omega)) (h.kept5 hg (by omega)) (h.kept6 hg (by omega)) (h.kept7 hg (by omega)) h.tx (zeQ h.rows hg (by omega))
theorem CS.put2 {w' : World} {a : Int × Int} (h : CS w0 N n w L M4 rs) (hm : zbc Tryz.prog 3 zY zY w' (N + 2) (n + 1) (a :: L.streets)) (hg : w.grownBy w' (some (N + 2))) : CS w0 N (n + 1) w' { L with streets:=a :: L.streets } M4 rs:=
 h.grown 2 (by omega) hg { L with streets:=a :: L.streets } M4 rs (h.kept0 hg (by omega)) (h.kept1 hg (by omega)) hm (h.kept3 hg (by omega)) (h.kept4 hg (by omega)) (h.kept5 hg (by omega)) (h.kept6 hg (by omega)) (h.kept7 hg (by omega)) h.tx (zeQ h.rows hg (by omega))
theorem CS.put5 {w' : World} {a : Int} (h : CS w0 N n w L M4 rs) (hm : zbc Tryz.prog 3 zY Value.bool w' (N + 5) (n + 1) ((a,true) :: L.points.map yes)) (hg : w.grownBy w' (some (N + 5))) : CS w0 N (n + 1) w' { L with points:=a :: L.points } M4 rs:=
 h.grown 5 (by omega) hg { L with points:=a :: L.points } M4 rs (h.kept0 hg (by omega)) (h.kept1 hg (by omega)) (h.kept2 hg (by omega)) (h.kept3 hg (by omega)) (h.kept4 hg (by omega)) hm (h.kept6 hg (by omega)) (h.kept7 hg (by omega)) h.tx (zeQ h.rows hg (by omega))
theorem CS.put6 {w' : World} {a : zgp} (h : CS w0 N n w L M4 rs) (hm : zbc Tryz.prog 206 zdX Value.bool w' (N + 6) (n + 1) ((a,true) :: L.addrs.map yes)) (hg : w.grownBy w' (some (N + 6))) : CS w0 N (n + 1) w' { L with addrs:=a :: L.addrs } M4 rs:=
 h.grown 6 (by omega) hg { L with addrs:=a :: L.addrs } M4 rs (h.kept0 hg (by omega)) (h.kept1 hg (by omega)) (h.kept2 hg (by omega)) (h.kept3 hg (by omega)) (h.kept4 hg (by omega)) (h.kept5 hg (by omega)) hm (h.kept7 hg (by omega)) h.tx (zeQ h.rows hg (by omega))
theorem CS.put7 {w' : World} {a : Int × Int} (h : CS w0 N n w L M4 rs) (hm : zbc Tryz.prog 202 zbU Value.bool w' (N + 7) (n + 1) ((a,true) :: L.places.map yes)) (hg : w.grownBy w' (some (N + 7))) : CS w0 N (n + 1) w' { L with places:=a :: L.places } M4 rs:=
 h.grown 7 (by omega) hg { L with places:=a :: L.places } M4 rs (h.kept0 hg (by omega)) (h.kept1 hg (by omega)) (h.kept2 hg (by omega)) (h.kept3 hg (by omega)) (h.kept4 hg (by omega)) (h.kept5 hg (by omega)) (h.kept6 hg (by omega)) hm h.tx (zeQ h.rows hg (by omega))
theorem zrL (h : CS w0 N n w L M4 rs) (town : Int) (text : ByteArray) (ht : zam town) (hx : text.size <= 1000000) (hn : n < 1000000) : Calls Tryz.prog 118 #[.pointer (some ⟨N + 8,0,none⟩),.int .i64 town,.string text] w fun e w'=>
  e = .returned (.bool (!zcg (town,text) L.labels)) /\ Below w0.heap.size w0 w' /\ zc (fun b=>b ≠ N + 3) w w' /\ (zcg (town,text) L.labels = false -> CS w0 N (n + 1) w' { L with labels:=(town,text) :: L.labels } M4 rs):=by
 obtain ⟨kl,hkl⟩:=zkY (town,text) ht (by unfold maxLen; simp only; omega);have hb1 : Below w.heap.size w (w.alloc (.cells #[.int .i64 town,.string text] 197)):=(Below.refl _ _).alloc (lQ _) _;have kL:=Hd (Blk.new w 197 #[.int .i64 town,.string text]);have h1:=Hd (h.up hb1);have hK1:=Hd (zc.of_below hb1 (fun b=>b ≠ N + 3));clear h hb1;go_enter Tryz.func118,Tryz.ntmps118;go_wp2;generalize w.alloc (.cells #[.int .i64 town,.string text] 197) = W at *;have g1:=fun (u : Ups W)=>(h1.out.up u.up).blk.cell 3;have g2:=fun (u : Ups W)=>(kL.out.ups u).cell 0;have g3:=fun (u : Ups W)=>(kL.out.ups u).cell 1;have g4:=fun (u : Ups W)=>(h1.out.up u.up).m3.look zkc Tryz.underlying188 (zwu _) (town,text) hkl;simp only [zgR,zbh] at g4;simp at g1 g2 g3
 cases hm : zcg (town,text) L.labels with
 | true=>
  rw [hm] at g4;refine zC (by kernel_rfl) (by kernel_rfl) ?_
  repeat (go_big_quiet_step (fail))
  refine wpQuiet_nil ?_;rintro _ ⟨u,rfl⟩;clear g1 g2 g3 g4;go_wp2;go_ret;exact ⟨zf (by rw [hm]; rfl),(h1.out.up u.up).below,hK1.out.trans (zc.of_below u.up _),fun h=>by rw [hm] at h; cases h⟩
 | false=>
  rw [hm] at g4;refine zC (by kernel_rfl) (by kernel_rfl) ?_
  repeat (go_big_quiet_step (fail))
  refine wpQuiet_nil ?_;rintro _ ⟨u,rfl⟩;have h2:=Hd (h1.out.up u.up);have hK2:=Hd (hK1.out.trans (zc.of_below u.up _));have kL2:=Hd (kL.out.ups u);clear g1 g2 g3 g4 h1 kL;generalize u.wld = W1 at *;go_wp2;have g1:=fun (u : Ups W1)=>(h2.out.up u.up).blk.cell 3;have g2:=fun (u : Ups W1)=>(kL2.out.ups u).cell 0;have g3:=fun (u : Ups W1)=>(kL2.out.ups u).cell 1;simp at g1 g2 g3;refine zL 5 (by kernel_rfl) (by kernel_rfl) ?_;simp only [tS,tZ,dS,dZ]
  repeat (go_big_quiet_step (fail))
  refine wpQuiet_nil ?_;rintro _ ⟨u2,rfl⟩;have h3:=h2.out.up u2.up;have hK3:=hK2.out.trans (zc.of_below u2.up _);obtain ⟨W2,hput,hmv,hgr⟩:=h3.m3.put zkc Tryz.underlying188 (by unfold maxLen; omega) zjq (town,text) true hkl;simp only [zbh] at hput;have hK:=Hd (hK3.trans (zc.of_grown hgr (fun b hb e=>hb (by injection e))));have hcs : Hid (CS w0 N (n + 1) W2 { L with labels:=(town,text) :: L.labels } M4 rs):=Hd (h3.put3 hmv hgr);clear g1 g2 g3 hmv hgr h3 h2 kL2 hK1 hK2 hK3;generalize u2.wld = W3 at *;go_wp2;go_ret;exact ⟨zf (by rw [hm]; rfl),hcs.out.below,hK.out,fun _=>hcs.out⟩
end
end Go.Proofs.YtggimnndflkjkaaGreatDoor
