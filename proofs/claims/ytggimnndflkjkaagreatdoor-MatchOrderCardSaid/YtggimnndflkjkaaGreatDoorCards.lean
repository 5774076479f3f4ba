/-
  DERIVED. GIVEN WITH THE SEED: THE CARDS: each row of YtggimnndflkjkaaGreatDoorRows.lean that lists a variable, with what it lists TIED to the program's text (the seventh form; the later family's looks); each row that meets fmt, with fmt's text TOLD by the authors' own Lean function (tested against real Go, not proved from fmt's source: count such statements apart). THE CARD IS WHAT COUNTS. Prove the row's statement (the work); the ties are given (YtggimnndflkjkaaGreatDoorTie.lean); close each card by the builder's one call (the guide's Derived/Test/ToyasCard.lean, 'card_holds'). Laid BY PROGRAM, IN A SANDBOX (cutbox-door.mjs). By AI agents, Wed Nov 11 2026. No macro, syntax, notation, axiom, sorry.
-/
import Derived.Test.YtggimnndflkjkaaGreatDoorRows
import GoSem.ClaimSeven
namespace Go.Proofs.YtggimnndflkjkaaGreatDoor
namespace Rows

/-- THE TIED CARD OF 'letterbaglaw14.MatchOwn'. -/
def matchOwnCard : Claim7 := { stood := { row := matchOwnRow, standIns := [], harness := (true, "723741566ef359c4faf7b021fa85f20e4c6214f58269e36c64195f5ff5da4cec"), looks := false }, kinds := [], alts := [], laidByText := true, laidKinds := [.data, .data, .data, .data, .pinned], laidTests := true, laidLooks := .later }
def MatchOwnCardSaid : Prop := Claim7.holds Tryz.pinned (.plain (OpenSpec.ofChange matchOwnSpec)) matchOwnCard

/-- THE TIED CARD OF 'letterbaglaw14.MatchDrops'. -/
def matchDropsCard : Claim7 := { stood := { row := matchDropsRow, standIns := [], harness := (true, "723741566ef359c4faf7b021fa85f20e4c6214f58269e36c64195f5ff5da4cec"), looks := false }, kinds := [], alts := [], laidByText := true, laidKinds := [.data, .data, .data, .data, .pinned], laidTests := true, laidLooks := .later }
def MatchDropsCardSaid : Prop := Claim7.holds Tryz.pinned (.plain (OpenSpec.ofChange matchDropsSpec)) matchDropsCard

/-- THE TIED CARD OF 'letterbaglaw14.MatchEdits'. -/
def matchEditsCard : Claim7 := { stood := { row := matchEditsRow, standIns := [], harness := (true, "723741566ef359c4faf7b021fa85f20e4c6214f58269e36c64195f5ff5da4cec"), looks := false }, kinds := [], alts := [], laidByText := true, laidKinds := [.data, .data, .data, .data, .pinned], laidTests := true, laidLooks := .later }
def MatchEditsCardSaid : Prop := Claim7.holds Tryz.pinned (.plain (OpenSpec.ofChange matchEditsSpec)) matchEditsCard

/-- THE TIED CARD OF 'letterbaglaw14.MatchNever'. -/
def matchNeverCard : Claim7 := { stood := { row := matchNeverRow, standIns := [], harness := (true, "723741566ef359c4faf7b021fa85f20e4c6214f58269e36c64195f5ff5da4cec"), looks := false }, kinds := [], alts := [], laidByText := true, laidKinds := [.data, .data, .data, .data, .pinned], laidTests := true, laidLooks := .later }
def MatchNeverCardSaid : Prop := Claim7.holds Tryz.pinned (.plain (OpenSpec.ofChange matchNeverSpec)) matchNeverCard

/-- THE TIED CARD OF 'letterbaglaw14.MatchOrder'. -/
def matchOrderCard : Claim7 := { stood := { row := matchOrderRow, standIns := [], harness := (true, "723741566ef359c4faf7b021fa85f20e4c6214f58269e36c64195f5ff5da4cec"), looks := false }, kinds := [], alts := [], laidByText := true, laidKinds := [.data, .data, .data, .data, .pinned], laidTests := true, laidLooks := .later }
def MatchOrderCardSaid : Prop := Claim7.holds Tryz.pinned (.plain (OpenSpec.ofChange matchOrderSpec)) matchOrderCard

/-- THE TIED CARD OF 'letterbaglaw14.MatchAdded'. -/
def matchAddedCard : Claim7 := { stood := { row := matchAddedRow, standIns := [], harness := (true, "723741566ef359c4faf7b021fa85f20e4c6214f58269e36c64195f5ff5da4cec"), looks := false }, kinds := [], alts := [], laidByText := true, laidKinds := [.data, .data, .data, .data, .pinned], laidTests := true, laidLooks := .later }
def MatchAddedCardSaid : Prop := Claim7.holds Tryz.pinned (.plain (OpenSpec.ofChange matchAddedSpec)) matchAddedCard

/-- THE TIED CARD OF 'letterbaglaw14.MatchWrong'. -/
def matchWrongCard : Claim7 := { stood := { row := matchWrongRow, standIns := [], harness := (true, "723741566ef359c4faf7b021fa85f20e4c6214f58269e36c64195f5ff5da4cec"), looks := false }, kinds := [], alts := [], laidByText := true, laidKinds := [.data, .data, .data, .data, .pinned], laidTests := true, laidLooks := .later }
def MatchWrongCardSaid : Prop := Claim7.holds Tryz.pinned (.plain (OpenSpec.ofChange matchWrongSpec)) matchWrongCard

/-- THE SECOND FORM's CARD OF 'letterbaglaw14.MatchOwn'. -/
def matchOwnUptoCard : Claim7 := { stood := { row := matchOwnUptoRow, standIns := [], harness := (true, "723741566ef359c4faf7b021fa85f20e4c6214f58269e36c64195f5ff5da4cec"), looks := false }, kinds := [], alts := [], laidByText := true, laidKinds := [.data, .data, .data, .data, .pinned], laidTests := true, laidLooks := .later }
def MatchOwnUptoCardSaid : Prop := Claim7.holds Tryz.pinned (.plain (OpenSpec.upto matchOwnSpec)) matchOwnUptoCard

/-- THE SECOND FORM's CARD OF 'letterbaglaw14.MatchDrops'. -/
def matchDropsUptoCard : Claim7 := { stood := { row := matchDropsUptoRow, standIns := [], harness := (true, "723741566ef359c4faf7b021fa85f20e4c6214f58269e36c64195f5ff5da4cec"), looks := false }, kinds := [], alts := [], laidByText := true, laidKinds := [.data, .data, .data, .data, .pinned], laidTests := true, laidLooks := .later }
def MatchDropsUptoCardSaid : Prop := Claim7.holds Tryz.pinned (.plain (OpenSpec.upto matchDropsSpec)) matchDropsUptoCard

/-- THE SECOND FORM's CARD OF 'letterbaglaw14.MatchEdits'. -/
def matchEditsUptoCard : Claim7 := { stood := { row := matchEditsUptoRow, standIns := [], harness := (true, "723741566ef359c4faf7b021fa85f20e4c6214f58269e36c64195f5ff5da4cec"), looks := false }, kinds := [], alts := [], laidByText := true, laidKinds := [.data, .data, .data, .data, .pinned], laidTests := true, laidLooks := .later }
def MatchEditsUptoCardSaid : Prop := Claim7.holds Tryz.pinned (.plain (OpenSpec.upto matchEditsSpec)) matchEditsUptoCard

/-- THE SECOND FORM's CARD OF 'letterbaglaw14.MatchNever'. -/
def matchNeverUptoCard : Claim7 := { stood := { row := matchNeverUptoRow, standIns := [], harness := (true, "723741566ef359c4faf7b021fa85f20e4c6214f58269e36c64195f5ff5da4cec"), looks := false }, kinds := [], alts := [], laidByText := true, laidKinds := [.data, .data, .data, .data, .pinned], laidTests := true, laidLooks := .later }
def MatchNeverUptoCardSaid : Prop := Claim7.holds Tryz.pinned (.plain (OpenSpec.upto matchNeverSpec)) matchNeverUptoCard

/-- THE SECOND FORM's CARD OF 'letterbaglaw14.MatchOrder'. -/
def matchOrderUptoCard : Claim7 := { stood := { row := matchOrderUptoRow, standIns := [], harness := (true, "723741566ef359c4faf7b021fa85f20e4c6214f58269e36c64195f5ff5da4cec"), looks := false }, kinds := [], alts := [], laidByText := true, laidKinds := [.data, .data, .data, .data, .pinned], laidTests := true, laidLooks := .later }
def MatchOrderUptoCardSaid : Prop := Claim7.holds Tryz.pinned (.plain (OpenSpec.upto matchOrderSpec)) matchOrderUptoCard

/-- THE SECOND FORM's CARD OF 'letterbaglaw14.MatchAdded'. -/
def matchAddedUptoCard : Claim7 := { stood := { row := matchAddedUptoRow, standIns := [], harness := (true, "723741566ef359c4faf7b021fa85f20e4c6214f58269e36c64195f5ff5da4cec"), looks := false }, kinds := [], alts := [], laidByText := true, laidKinds := [.data, .data, .data, .data, .pinned], laidTests := true, laidLooks := .later }
def MatchAddedUptoCardSaid : Prop := Claim7.holds Tryz.pinned (.plain (OpenSpec.upto matchAddedSpec)) matchAddedUptoCard

/-- THE SECOND FORM's CARD OF 'letterbaglaw14.MatchWrong'. -/
def matchWrongUptoCard : Claim7 := { stood := { row := matchWrongUptoRow, standIns := [], harness := (true, "723741566ef359c4faf7b021fa85f20e4c6214f58269e36c64195f5ff5da4cec"), looks := false }, kinds := [], alts := [], laidByText := true, laidKinds := [.data, .data, .data, .data, .pinned], laidTests := true, laidLooks := .later }
def MatchWrongUptoCardSaid : Prop := Claim7.holds Tryz.pinned (.plain (OpenSpec.upto matchWrongSpec)) matchWrongUptoCard
end Rows
end Go.Proofs.YtggimnndflkjkaaGreatDoor
