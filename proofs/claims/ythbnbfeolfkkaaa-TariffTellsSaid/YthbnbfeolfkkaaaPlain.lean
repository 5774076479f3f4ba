/- The plain mathematics of the tariff: data and the functions that the Go text computes, with no program in sight. -/
namespace Go.Proofs.Ythbnbfeolfkkaaa

/-- is a among the elements of a list -/
def memB {α : Type} [DecidableEq α] (a : α) (l : List α) : Bool := l.any fun x => decide (x = a)
theorem memB_nil {α : Type} [DecidableEq α] (a : α) : memB a [] = false := rfl
theorem memB_self {α : Type} [DecidableEq α] (a : α) (l : List α) : memB a (a :: l) = true := by simp [memB]
theorem memB_other {α : Type} [DecidableEq α] {a b : α} (l : List α) (h : a ≠ b) : memB a (b :: l) = memB a l := by simp [memB, Ne.symm h]

structure Step where
  grams : Int
  cents : List Int
structure Rate where
  cls : Int
  steps : List Step
  bar : Int
structure Zone where
  frm : ByteArray
  dst : ByteArray
  zone : Int
structure Tariff where
  rates : List Rate
  zones : List Zone
structure Piece where
  id : Int
  point : Int
  code : ByteArray
  grams : Int
  barred : Bool
structure Mailing where
  cls : Int
  country : Int
  origin : ByteArray
  pieces : List Piece
structure Label where
  pre : ByteArray
  group : ByteArray
structure Level where
  name : ByteArray
  pre : Int
  labels : List Label
  least : Int
  cents : Int

def countZones : List Rate → Nat
  | [] => 0
  | r :: _ => match r.steps with
    | [] => 0
    | s :: _ => s.cents.length

def centsOk (cs : List Int) : Bool := cs.all fun c => decide (0 ≤ c) && decide (c ≤ 1000000)

/-- the steps from one on, behind a step of so many grams -/
def stepsOk (z : Int) : Int → List Step → Bool
  | _, [] => true
  | bf, s :: t => if s.grams ≤ bf ∨ 50000 < s.grams ∨ (s.cents.length : Int) ≠ z then false else if centsOk s.cents then stepsOk z s.grams t else false

def rightRate (r : Rate) (z : Int) : Bool :=
  if r.steps.length < 1 ∨ 20 < r.steps.length ∨ r.bar < 0 ∨ 1000000 < r.bar then false else stepsOk z 0 r.steps

theorem drop_getD {α : Type} (l : List α) (d : α) (k : Nat) (h : k < l.length) : l.drop k = l.getD k d :: l.drop (k + 1) := by
  rw [List.drop_eq_getElem_cons h, List.getD_eq_getElem?_getD, List.getElem?_eq_getElem h]; rfl

theorem stepsOk_no {z bf : Int} {s : Step} {t : List Step} (h : s.grams ≤ bf ∨ 50000 < s.grams ∨ (s.cents.length : Int) ≠ z) : stepsOk z bf (s :: t) = false := by
  rw [stepsOk, if_pos h]
theorem stepsOk_bad {z bf : Int} {s : Step} {t : List Step} (h : centsOk s.cents = false) : stepsOk z bf (s :: t) = false := by
  rw [stepsOk, h]; simp
theorem stepsOk_yes {z bf : Int} {s : Step} {t : List Step} (h : ¬ (s.grams ≤ bf ∨ 50000 < s.grams ∨ (s.cents.length : Int) ≠ z)) (h2 : centsOk s.cents = true) : stepsOk z bf (s :: t) = stepsOk z s.grams t := by
  rw [stepsOk, if_neg h, if_pos h2]
theorem centsOk_no {c : Int} {t : List Int} (h : c < 0 ∨ 1000000 < c) : centsOk (c :: t) = false := by
  simp [centsOk]; omega
theorem centsOk_yes {c : Int} {t : List Int} (h : 0 ≤ c) (h2 : c ≤ 1000000) : centsOk (c :: t) = centsOk t := by
  simp [centsOk, h, h2]

def plainByte (c : UInt8) : Bool := (decide (65 ≤ c.toNat) && decide (c.toNat ≤ 90)) || (decide (48 ≤ c.toNat) && decide (c.toNat ≤ 57))
def isPlainL (l : List UInt8) : Bool := l.all plainByte
def isPlain (s : ByteArray) : Bool := isPlainL s.data.toList

theorem isPlainL_no {c : UInt8} {l : List UInt8} (h : plainByte c = false) : isPlainL (c :: l) = false := by simp [isPlainL, h]
theorem isPlainL_yes {c : UInt8} {l : List UInt8} (h : plainByte c = true) : isPlainL (c :: l) = isPlainL l := by simp [isPlainL, h]

def isCode (s : ByteArray) : Bool := if s.size < 1 ∨ 10 < s.size then false else isPlain s
def isPart (s : ByteArray) : Bool := s.toList.isEmpty || isCode s

def rowBad (z : Int) (met : List (ByteArray × ByteArray)) (r : Zone) : Prop := isPart r.frm = false ∨ isPart r.dst = false ∨ r.zone < 1 ∨ z < r.zone ∨ memB (r.frm, r.dst) met = true
instance (z : Int) (met : List (ByteArray × ByteArray)) (r : Zone) : Decidable (rowBad z met r) := by unfold rowBad; infer_instance
def rowsOk (z : Int) : List (ByteArray × ByteArray) → List Zone → Bool
  | met, [] => memB (⟨#[]⟩, ⟨#[]⟩) met
  | met, r :: t => if rowBad z met r then false else rowsOk z ((r.frm, r.dst) :: met) t
def rightRows (rows : List Zone) (z : Int) : Bool := rowsOk z [] rows
theorem rowsOk_no {z : Int} {met : List (ByteArray × ByteArray)} {r : Zone} {t : List Zone} (h : rowBad z met r) : rowsOk z met (r :: t) = false := by rw [rowsOk, if_pos h]
theorem rowsOk_yes {z : Int} {met : List (ByteArray × ByteArray)} {r : Zone} {t : List Zone} (h : ¬ rowBad z met r) : rowsOk z met (r :: t) = rowsOk z ((r.frm, r.dst) :: met) t := by rw [rowsOk, if_neg h]

def hasPre (s p : ByteArray) : Bool := decide (p.size ≤ s.size) && ((s.extract 0 p.size).toList == p.toList)
/-- a row that fits, against the best one so far -/
def better (best r : Zone) : Prop := best.zone = 0 ∨ best.frm.size < r.frm.size ∨ (r.frm.size = best.frm.size ∧ best.dst.size < r.dst.size)
instance (best r : Zone) : Decidable (better best r) := by unfold better; infer_instance
def zoneStep (f t : ByteArray) (best r : Zone) : Zone := if (hasPre f r.frm && hasPre t r.dst) = true then (if better best r then r else best) else best
def zoneFold (f t : ByteArray) (best : Zone) (rows : List Zone) : Zone := rows.foldl (zoneStep f t) best
def zoneOf (rows : List Zone) (f t : ByteArray) : Int := (zoneFold f t ⟨⟨#[]⟩, ⟨#[]⟩, 0⟩ rows).zone
theorem zoneFold_cons (f t : ByteArray) (best r : Zone) (rows : List Zone) : zoneFold f t best (r :: rows) = zoneFold f t (zoneStep f t best r) rows := rfl

def rateOf (cls : Int) : List Rate → Option Rate
  | [] => none
  | r :: t => if r.cls = cls then some r else rateOf cls t
/-- where the first step is that holds a weight; from k on -/
def stepAt (grams : Int) : Nat → List Step → Int
  | _, [] => -1
  | k, s :: t => if grams ≤ s.grams then k else stepAt grams (k + 1) t
theorem stepAt_lt (grams : Int) : ∀ (k : Nat) (ss : List Step), stepAt grams k ss < k + ss.length
  | _, [] => by simp [stepAt]; omega
  | k, s :: t => by
    have := stepAt_lt grams (k + 1) t
    rw [stepAt]
    split
    · simp; omega
    · simp at this ⊢; omega
def Step.zero : Step := ⟨0, []⟩
/-- the price of a zone and a weight, and the error: 0, or 3 if the weight is beyond all steps -/
def priceOf (ss : List Step) (zone grams : Int) : Int × Int :=
  if stepAt grams 0 ss < 0 then (0, 3) else ((ss.getD (stepAt grams 0 ss).toNat Step.zero).cents.getD (zone - 1).toNat 0, 0)
theorem rateOf_cons (cls : Int) (r : Rate) (t : List Rate) : rateOf cls (r :: t) = if r.cls = cls then some r else rateOf cls t := rfl
theorem stepAt_cons (grams : Int) (k : Nat) (s : Step) (t : List Step) : stepAt grams k (s :: t) = if grams ≤ s.grams then (k : Int) else stepAt grams (k + 1) t := rfl

def rateBad (z : Int) (met : List Int) (r : Rate) : Prop := r.cls < 1 ∨ memB r.cls met = true ∨ rightRate r z = false
instance (z : Int) (met : List Int) (r : Rate) : Decidable (rateBad z met r) := by unfold rateBad; infer_instance
def ratesOk (z : Int) : List Int → List Rate → Bool
  | _, [] => true
  | met, r :: t => if rateBad z met r then false else ratesOk z (r.cls :: met) t
theorem ratesOk_no {z : Int} {met : List Int} {r : Rate} {t : List Rate} (h : rateBad z met r) : ratesOk z met (r :: t) = false := by rw [ratesOk, if_pos h]
theorem ratesOk_yes {z : Int} {met : List Int} {r : Rate} {t : List Rate} (h : ¬ rateBad z met r) : ratesOk z met (r :: t) = ratesOk z (r.cls :: met) t := by rw [ratesOk, if_neg h]
def rightMany (rs : List Rate) (zs : List Zone) : Prop := ¬ (rs.length < 1 ∨ 20 < rs.length ∨ zs.length < 1 ∨ 500 < zs.length)
instance (rs : List Rate) (zs : List Zone) : Decidable (rightMany rs zs) := by unfold rightMany; infer_instance
/-- Right: what the program's function of this name computes -/
def right (rs : List Rate) (zs : List Zone) : Bool :=
  if rightMany rs zs then (if countZones rs < 1 ∨ 20 < countZones rs then false else if ratesOk (countZones rs) [] rs then rightRows zs (countZones rs) else false) else false

def pieceBad (bf : Int) (p : Piece) : Prop := p.id ≤ bf ∨ 999999 < p.id ∨ p.point < 0 ∨ 999999 < p.point ∨ isCode p.code = false ∨ p.grams < 1 ∨ 50000 < p.grams
instance (bf : Int) (p : Piece) : Decidable (pieceBad bf p) := by unfold pieceBad; infer_instance
def piecesOk : Int → List Piece → Bool
  | _, [] => true
  | bf, p :: t => if pieceBad bf p then false else piecesOk p.id t
theorem piecesOk_no {bf : Int} {p : Piece} {t : List Piece} (h : pieceBad bf p) : piecesOk bf (p :: t) = false := by rw [piecesOk, if_pos h]
theorem piecesOk_yes {bf : Int} {p : Piece} {t : List Piece} (h : ¬ pieceBad bf p) : piecesOk bf (p :: t) = piecesOk p.id t := by rw [piecesOk, if_neg h]
def Piece.zero : Piece := ⟨0, 0, ⟨#[]⟩, 0, false⟩
/-- Mailing: what the program's function of this name computes -/
def mailing (m : Mailing) : Bool :=
  if m.cls < 1 ∨ m.country < 1 ∨ 3 < m.country then false else if isCode m.origin = false ∨ 2000 < m.pieces.length then false else piecesOk 0 m.pieces

/-- Zone and Price: the number, and the error -/
def zoneRes (rs : List Rate) (zs : List Zone) (f t : ByteArray) : Int × Int :=
  if right rs zs = false ∨ isCode f = false ∨ isCode t = false then (0, 2) else (zoneOf zs f t, 0)
def priceBad (rs : List Rate) (zs : List Zone) (zone grams : Int) : Prop := right rs zs = false ∨ zone < 1 ∨ (countZones rs : Int) < zone ∨ grams < 1
instance (rs : List Rate) (zs : List Zone) (zone grams : Int) : Decidable (priceBad rs zs zone grams) := by unfold priceBad; infer_instance
def priceBy (rs : List Rate) (cls zone grams : Int) : Int × Int :=
  match rateOf cls rs with
  | none => (0, 6)
  | some r => priceOf r.steps zone grams
def priceRes (rs : List Rate) (zs : List Zone) (cls zone grams : Int) : Int × Int :=
  if priceBad rs zs zone grams then (0, 2) else priceBy rs cls zone grams

theorem rateOf_mem {cls : Int} {r : Rate} : ∀ {rs : List Rate}, rateOf cls rs = some r → r ∈ rs ∧ r.cls = cls
  | [], h => by cases h
  | q :: t, h => by
    rw [rateOf_cons] at h
    split at h
    · cases h; exact ⟨by simp, by assumption⟩
    · have := rateOf_mem h; exact ⟨List.mem_cons_of_mem _ this.1, this.2⟩
theorem ratesOk_all {z : Int} : ∀ {met : List Int} {rs : List Rate}, ratesOk z met rs = true → ∀ r ∈ rs, rightRate r z = true ∧ 1 ≤ r.cls
  | _, [], _, r, hr => by cases hr
  | met, q :: t, h, r, hr => by
    by_cases hb : rateBad z met q
    · rw [ratesOk_no hb] at h; cases h
    · rw [ratesOk_yes hb] at h
      rcases List.mem_cons.1 hr with rfl | hr
      · refine ⟨?_, ?_⟩
        · cases hq : rightRate r z
          · exact absurd (.inr (.inr hq)) hb
          · rfl
        · exact Int.not_lt.1 fun hlt => hb (.inl hlt)
      · exact ratesOk_all h r hr
theorem stepsOk_all {z : Int} : ∀ {bf : Int} {ss : List Step}, stepsOk z bf ss = true → ∀ s ∈ ss, (s.cents.length : Int) = z ∧ bf < s.grams ∧ s.grams ≤ 50000 ∧ centsOk s.cents = true
  | _, [], _, s, hs => by cases hs
  | bf, q :: t, h, s, hs => by
    by_cases hb : q.grams ≤ bf ∨ 50000 < q.grams ∨ (q.cents.length : Int) ≠ z
    · rw [stepsOk_no hb] at h; cases h
    · by_cases hc : centsOk q.cents = true
      · rw [stepsOk_yes hb hc] at h
        rcases List.mem_cons.1 hs with rfl | hs
        · exact ⟨by omega, by omega, by omega, hc⟩
        · have := stepsOk_all h s hs
          exact ⟨this.1, by omega, this.2.2⟩
      · rw [stepsOk_bad (by simpa using hc)] at h; cases h
theorem rightRate_all {z : Int} {r : Rate} (h : rightRate r z = true) : stepsOk z 0 r.steps = true ∧ 1 ≤ r.steps.length ∧ r.steps.length ≤ 20 ∧ 0 ≤ r.bar ∧ r.bar ≤ 1000000 := by
  unfold rightRate at h
  split at h
  · cases h
  · exact ⟨h, by omega, by omega, by omega, by omega⟩
theorem right_parts {rs : List Rate} {zs : List Zone} (h : right rs zs = true) : rightMany rs zs ∧ 1 ≤ countZones rs ∧ countZones rs ≤ 20 ∧ ratesOk (countZones rs) [] rs = true ∧ rightRows zs (countZones rs) = true := by
  unfold right at h
  split at h
  · rename_i hm
    split at h
    · cases h
    · split at h
      · exact ⟨hm, by omega, by omega, by assumption, h⟩
      · cases h
  · cases h
theorem right_cents {rs : List Rate} {zs : List Zone} (h : right rs zs = true) {cls : Int} {r : Rate} (hr : rateOf cls rs = some r) : ∀ s ∈ r.steps, (s.cents.length : Int) = countZones rs := by
  obtain ⟨_, _, _, h4, _⟩ := right_parts h
  have := (ratesOk_all h4 r (rateOf_mem hr).1).1
  exact fun s hs => (stepsOk_all (rightRate_all this).1 s hs).1

end Go.Proofs.Ythbnbfeolfkkaaa
