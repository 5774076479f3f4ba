/- The scheme that law23.Made makes, in plain Lean. -/
import Derived.Test.YthbnbfeolfkkaaaScheme
namespace Go.Proofs.Ythbnbfeolfkkaaa

def lab5 : List (ByteArray × ByteArray) := [(⟨#[49, 48, 48, 48, 48]⟩, ⟨#[72, 49, 48, 48]⟩), (⟨#[49, 48, 48, 48, 49]⟩, ⟨#[72, 49, 48, 48]⟩), (⟨#[49, 48, 48, 49, 48]⟩, ⟨#[72, 49, 48, 48]⟩), (⟨#[49, 49, 48, 48, 48]⟩, ⟨#[72, 49, 49, 48]⟩), (⟨#[50, 48, 48, 48, 48]⟩, ⟨#[72, 50, 48, 48]⟩)]
def lab3 : List (ByteArray × ByteArray) := [(⟨#[49, 48, 48]⟩, ⟨#[71, 49]⟩), (⟨#[49, 48, 49]⟩, ⟨#[71, 49]⟩), (⟨#[49, 49, 48]⟩, ⟨#[71, 49]⟩), (⟨#[50, 48, 48]⟩, ⟨#[71, 50]⟩), (⟨#[50, 48, 49]⟩, ⟨#[71, 50]⟩), (⟨#[51, 48, 48]⟩, ⟨#[71, 51]⟩)]
def lab1 : List (ByteArray × ByteArray) := [(⟨#[49]⟩, ⟨#[90]⟩), (⟨#[50]⟩, ⟨#[90]⟩), (⟨#[51]⟩, ⟨#[90]⟩)]
def labAt (ps : List (ByteArray × ByteArray)) (k : Nat) : Label := ⟨(ps.getD k (⟨#[]⟩, ⟨#[]⟩)).1, (ps.getD k (⟨#[]⟩, ⟨#[]⟩)).2⟩
/-- the labels that are made out of the first k pairs, by the bits of m -/
def labelsBy (m : Nat) (ps : List (ByteArray × ByteArray)) : Nat → List Label
  | 0 => []
  | k + 1 => if m / 2 ^ k % 2 = 1 then labelsBy m ps k ++ [labAt ps k] else labelsBy m ps k
theorem labelsBy_len (m : Nat) (ps : List (ByteArray × ByteArray)) : ∀ k, (labelsBy m ps k).length ≤ k
  | 0 => by simp [labelsBy]
  | k + 1 => by
    have := labelsBy_len m ps k
    rw [labelsBy]
    split
    · simp; omega
    · omega
def addL (cents : List Int) (acc : List Level) (name : ByteArray) (pre : Int) (labels : List Label) : List Level := acc ++ [⟨name, pre, labels, 1, cents.getD acc.length 0⟩]
def made5 (n : Nat) (cents : List Int) : List Level := if n % 2 = 1 then addL cents [] ⟨#[102, 105, 118, 101]⟩ 5 (labelsBy (n / 8) lab5 5) else []
def made3 (n : Nat) (cents : List Int) : List Level := if n / 2 % 2 = 1 then addL cents (made5 n cents) ⟨#[116, 104, 114, 101, 101]⟩ 3 (labelsBy (n / 256) lab3 6) else made5 n cents
def made1 (n : Nat) (cents : List Int) : List Level := if n / 4 % 2 = 1 then addL cents (made3 n cents) ⟨#[111, 110, 101]⟩ 1 (labelsBy (n / 16384) lab1 3) else made3 n cents
def madeLevels (n : Nat) (cents : List Int) : List Level := made1 n cents ++ [⟨⟨#[97, 108, 108]⟩, 0, [], 0, cents.getD (made1 n cents).length 0⟩]
theorem addL_len (cents : List Int) (acc : List Level) (name : ByteArray) (pre : Int) (labels : List Label) : (addL cents acc name pre labels).length = acc.length + 1 := by simp [addL]
theorem made5_len (n : Nat) (cents : List Int) : (made5 n cents).length ≤ 1 := by unfold made5; split <;> simp [addL_len]
theorem made3_len (n : Nat) (cents : List Int) : (made3 n cents).length ≤ 2 := by
  have := made5_len n cents
  unfold made3; split
  · rw [addL_len]; omega
  · omega
theorem made1_len (n : Nat) (cents : List Int) : (made1 n cents).length ≤ 3 := by
  have := made3_len n cents
  unfold made1; split
  · rw [addL_len]; omega
  · omega
theorem lab5_at : ∀ k, k < 5 → (labAt lab5 k).pre.size = 5 ∧ (⟨#[72]⟩ : ByteArray) ++ (labAt lab5 k).pre.extract 0 3 = (labAt lab5 k).group := by decide +kernel
theorem lab3_at : ∀ k, k < 6 → (labAt lab3 k).pre.size = 3 ∧ (⟨#[71]⟩ : ByteArray) ++ (labAt lab3 k).pre.extract 0 1 = (labAt lab3 k).group := by decide +kernel
theorem lab1_at : ∀ k, k < 3 → (labAt lab1 k).pre.size = 1 ∧ (⟨#[90]⟩ : ByteArray) = (labAt lab1 k).group := by decide +kernel
end Go.Proofs.Ythbnbfeolfkkaaa
