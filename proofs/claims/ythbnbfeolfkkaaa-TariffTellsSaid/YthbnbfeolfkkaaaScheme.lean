/- Schemes (layer 23): how levels and labels lie in memory, and what the functions of package scheme compute. -/
import Derived.Test.YthbnbfeolfkkaaaMem
namespace Go.Proofs.Ythbnbfeolfkkaaa
open Go.RowKit

theorem below_n {B : Nat} {a w : World} (h : Below B a w) (n : Nat) : Below B a (w.drewN n) := ⟨h.os, h.tape, h.output, h.size, h.block⟩
def Label.zero : Label := ⟨⟨#[]⟩, ⟨#[]⟩⟩
def Level.zero : Level := ⟨⟨#[]⟩, 0, [], 0, 0⟩
def IsLabel (w : World) (b o : Nat) (l : Label) : Prop :=
  w.cell? ⟨b, o, none⟩ = some (.string l.pre) ∧ w.cell? ⟨b, o + 1, none⟩ = some (.string l.group) ∧ l.pre.size ≤ maxLen ∧ l.group.size ≤ maxLen
def IsLabels (w : World) (v : Value) (ls : List Label) : Prop :=
  Sl w v ls.length fun b off i => IsLabel w b (off + i * 2) (ls.getD i Label.zero)
def IsLevel (w : World) (b o : Nat) (l : Level) : Prop :=
  w.cell? ⟨b, o, none⟩ = some (.string l.name) ∧ w.cell? ⟨b, o + 1, none⟩ = some (.int .i64 l.pre) ∧ (∃ lv, w.cell? ⟨b, o + 2, none⟩ = some lv ∧ IsLabels w lv l.labels) ∧
    w.cell? ⟨b, o + 3, none⟩ = some (.int .i64 l.least) ∧ w.cell? ⟨b, o + 4, none⟩ = some (.int .i64 l.cents) ∧ l.name.size ≤ maxLen
def IsLevels (w : World) (v : Value) (ls : List Level) : Prop :=
  Sl w v ls.length fun b off i => IsLevel w b (off + i * 5) (ls.getD i Level.zero)
theorem IsLabel.stays {w w' : World} {b o : Nat} {l : Label} (h : IsLabel w b o l) (hs : Stays w w') (hb : b < w.heap.size) : IsLabel w' b o l :=
  ⟨(hs.2 _ hb).trans h.1, (hs.2 _ hb).trans h.2.1, h.2.2⟩
theorem IsLabels.stays {w w' : World} {v : Value} {ls : List Label} (h : IsLabels w v ls) (hs : Stays w w') : IsLabels w' v ls :=
  Sl.stays h hs fun _ _ _ hb _ hc => hc.stays hs hb
theorem IsLevel.stays {w w' : World} {b o : Nat} {l : Level} (h : IsLevel w b o l) (hs : Stays w w') (hb : b < w.heap.size) : IsLevel w' b o l := by
  obtain ⟨h1, h2, ⟨lv, h3, h4⟩, h5, h6, h7⟩ := h
  exact ⟨(hs.2 _ hb).trans h1, (hs.2 _ hb).trans h2, ⟨lv, (hs.2 _ hb).trans h3, h4.stays hs⟩, (hs.2 _ hb).trans h5, (hs.2 _ hb).trans h6, h7⟩
theorem IsLevels.stays {w w' : World} {v : Value} {ls : List Level} (h : IsLevels w v ls) (hs : Stays w w') : IsLevels w' v ls :=
  Sl.stays h hs fun _ _ _ hb _ hc => hc.stays hs hb

/-! what the functions compute -/
def nameByte (c : UInt8) : Bool := decide (33 ≤ c.toNat) && decide (c.toNat ≤ 126)
/-- where the first byte is that no name has; from k on -/
def badAt : Nat → List UInt8 → Int
  | _, [] => -1
  | k, c :: t => if nameByte c then badAt (k + 1) t else k
theorem badAt_cons (k : Nat) (c : UInt8) (t : List UInt8) : badAt k (c :: t) = if nameByte c then badAt (k + 1) t else (k : Int) := rfl
theorem badAt_all : ∀ (k : Nat) (l : List UInt8), decide (0 ≤ badAt k l) = !l.all nameByte
  | _, [] => by simp [badAt]
  | k, c :: t => by
    rw [badAt_cons]
    split
    · rename_i h
      rw [badAt_all (k + 1) t, List.all_cons, h, Bool.true_and]
    · rename_i h
      rw [List.all_cons, Bool.not_eq_true _ |>.mp h]
      simp
def isName (s : ByteArray) : Bool := if s.size < 1 ∨ 20 < s.size then false else s.data.toList.all nameByte
def leqB (a b : ByteArray) : Bool := Op.bytesLess a.toList b.toList || a.toList == b.toList
def prevBad (prev : Option ByteArray) (p : ByteArray) : Bool :=
  match prev with
  | none => false
  | some q => leqB p q
def labelBad (pre : Int) (prev : Option ByteArray) (l : Label) : Bool :=
  decide ((l.pre.size : Int) ≠ pre) || !isPlain l.pre || !isName l.group || prevBad prev l.pre
def labelsOk (pre : Int) : Option ByteArray → List Label → Bool
  | _, [] => true
  | prev, l :: t => if labelBad pre prev l then false else labelsOk pre (some l.pre) t
theorem labelsOk_no {pre : Int} {prev : Option ByteArray} {l : Label} {t : List Label} (h : labelBad pre prev l = true) : labelsOk pre prev (l :: t) = false := by rw [labelsOk, if_pos h]
theorem labelsOk_yes {pre : Int} {prev : Option ByteArray} {l : Label} {t : List Label} (h : labelBad pre prev l = false) : labelsOk pre prev (l :: t) = labelsOk pre (some l.pre) t := by rw [labelsOk, if_neg (by simp [h])]
def levelBad (l : Level) : Prop := isName l.name = false ∨ l.pre < 0 ∨ 10 < l.pre ∨ l.cents < 0 ∨ 1000000 < l.cents
instance (l : Level) : Decidable (levelBad l) := by unfold levelBad; infer_instance
def isLevel (l : Level) (last : Bool) : Bool :=
  if levelBad l then false else if last then decide (l.least = 0) && decide (l.pre = 0) && decide (l.labels.length = 0) else
    if l.least < 1 ∨ 2000 < l.least then false else labelsOk l.pre none l.labels
def cmpB (a b : ByteArray) : Int := if Op.bytesLess a.toList b.toList then -1 else if (!Op.bytesLess a.toList b.toList && !(a.toList == b.toList)) then 1 else 0
/-- the search by halves, from i up to j -/
def bsGo (ls : List Label) (p : ByteArray) : Nat → Nat → Nat → Nat
  | 0, i, _ => i
  | f + 1, i, j => if i < j then (if cmpB (ls.getD ((i + j) / 2) Label.zero).pre p < 0 then bsGo ls p f ((i + j) / 2 + 1) j else bsGo ls p f i ((i + j) / 2)) else i
def bsAt (ls : List Label) (p : ByteArray) : Nat := bsGo ls p ls.length 0 ls.length
def bsHit (ls : List Label) (p : ByteArray) : Bool := decide (bsAt ls p < ls.length) && decide (cmpB (ls.getD (bsAt ls p) Label.zero).pre p = 0)
theorem bsGo_end (ls : List Label) (p : ByteArray) (f i : Nat) : bsGo ls p f i i = i := by
  cases f <;> simp [bsGo]
theorem bsGo_low {ls : List Label} {p : ByteArray} {f i j : Nat} (h : i < j) (hc : cmpB (ls.getD ((i + j) / 2) Label.zero).pre p < 0) : bsGo ls p (f + 1) i j = bsGo ls p f ((i + j) / 2 + 1) j := by rw [bsGo, if_pos h, if_pos hc]
theorem bsGo_high {ls : List Label} {p : ByteArray} {f i j : Nat} (h : i < j) (hc : ¬ cmpB (ls.getD ((i + j) / 2) Label.zero).pre p < 0) : bsGo ls p (f + 1) i j = bsGo ls p f i ((i + j) / 2) := by rw [bsGo, if_pos h, if_neg hc]
def labelled (ls : List Label) (p : ByteArray) : Option ByteArray := if bsHit ls p then some (ls.getD (bsAt ls p) Label.zero).group else none
def groupOf (l : Level) (code : ByteArray) : ByteArray :=
  match labelled l.labels (code.extract 0 l.pre.toNat) with
  | some g => g
  | none => code.extract 0 l.pre.toNat
end Go.Proofs.Ythbnbfeolfkkaaa
