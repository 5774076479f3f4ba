/- The mailing that Mail makes, in plain Lean. -/
import Derived.Test.YthbnbfeolfkkaaaRowsP
namespace Go.Proofs.Ythbnbfeolfkkaaa

def mailPiece (id x : Int) : Piece := ⟨id + (1 + x % 3), 0, codeOf (x / 256), 1 + x / 4 % 20, decide (0 < x % 2)⟩
/-- the pieces of numbers, behind a piece with an ID -/
def mailPieces : Int → List Int → List Piece
  | _, [] => []
  | id, x :: t => mailPiece id x :: mailPieces (id + (1 + x % 3)) t
/-- the ID behind the first pieces -/
def mailId (id : Int) (l : List Int) : Int := l.foldl (fun a x => a + (1 + x % 3)) id
theorem mailPieces_snoc (x : Int) : ∀ (l : List Int) (id : Int), mailPieces id (l ++ [x]) = mailPieces id l ++ [mailPiece (mailId id l) x]
  | [], _ => rfl
  | y :: t, id => by
    show mailPiece id y :: mailPieces _ (t ++ [x]) = mailPiece id y :: (mailPieces _ t ++ _)
    rw [mailPieces_snoc x t]; rfl
theorem mailId_snoc (x id : Int) (l : List Int) : mailId id (l ++ [x]) = mailId id l + (1 + x % 3) := by simp [mailId]
theorem mailPieces_len : ∀ (l : List Int) (id : Int), (mailPieces id l).length = l.length
  | [], _ => rfl
  | y :: t, id => by simp [mailPieces, mailPieces_len t]
theorem mailId_bd : ∀ (l : List Int) (id : Int), id + l.length ≤ mailId id l ∧ mailId id l ≤ id + 3 * l.length
  | [], id => by simp [mailId]
  | y :: t, id => by
    have := mailId_bd t (id + (1 + y % 3))
    have h0 : 0 ≤ y % 3 := Int.emod_nonneg _ (by omega)
    have h1 : y % 3 < 3 := Int.emod_lt_of_pos _ (by omega)
    have e : mailId id (y :: t) = mailId (id + (1 + y % 3)) t := rfl
    rw [e]
    simp only [List.length_cons]
    omega
def mailOf (cls : Int) (l : List Int) : Mailing := ⟨1 + cls % 3, 1, ⟨#[49, 48, 48, 50, 51]⟩, mailPieces 0 (l.take 2000)⟩
theorem piecesOk_mail : ∀ (l : List Int) (id : Int), 0 ≤ id → id + 3 * l.length ≤ 999999 → (∀ x ∈ l, 0 ≤ x ∧ x ≤ 65535) → piecesOk id (mailPieces id l) = true
  | [], _, _, _, _ => rfl
  | x :: t, id, h0, h1, hx => by
    have hxx := hx x (by simp)
    have h3 : 0 ≤ x % 3 := Int.emod_nonneg _ (by omega)
    have h4 : x % 3 < 3 := Int.emod_lt_of_pos _ (by omega)
    simp only [List.length_cons] at h1
    have hc := (isCode_of (x := x / 256) (by omega) (by omega)).1
    rw [mailPieces, piecesOk_yes]
    · exact piecesOk_mail t _ (by simp only [mailPiece]; omega) (by simp only [mailPiece]; omega) (fun y hy => hx y (List.mem_cons_of_mem _ hy))
    · unfold pieceBad mailPiece
      simp only [hc]
      rintro (h | h | h | h | h | h | h)
      · omega
      · omega
      · omega
      · omega
      · cases h
      · omega
      · omega
theorem mailing_mail (cls : Int) (l : List Int) (hx : ∀ x ∈ l, 0 ≤ x ∧ x ≤ 65535) : mailing (mailOf cls l) = true := by
  unfold mailing mailOf
  have h3 : 0 ≤ cls % 3 := Int.emod_nonneg _ (by omega)
  simp only [mailPieces_len]
  rw [if_neg (by omega), if_neg]
  · exact piecesOk_mail _ 0 (by omega) (by have : (l.take 2000).length ≤ 2000 := List.length_take_le _ _; omega) (fun x hm => hx x (List.mem_of_mem_take hm))
  · have hc : isCode ⟨#[49, 48, 48, 50, 51]⟩ = true := by decide +kernel
    have : (l.take 2000).length ≤ 2000 := List.length_take_le _ _
    rw [hc]
    rintro (h | h)
    · cases h
    · omega
end Go.Proofs.Ythbnbfeolfkkaaa
