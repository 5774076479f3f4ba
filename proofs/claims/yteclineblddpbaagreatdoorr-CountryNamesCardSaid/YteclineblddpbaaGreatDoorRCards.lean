/-
  DERIVED. GIVEN WITH THE SEED: THE CARDS: each row of YteclineblddpbaaGreatDoorRRows.lean that lists a variable, with what it lists TIED to the program's text (the seventh form; the later family's looks); each row that meets fmt, with fmt's text TOLD by the authors' own Lean function (tested against real Go, not proved from fmt's source: count such statements apart). THE CARD IS WHAT COUNTS. Prove the row's statement (the work); the ties are given (YteclineblddpbaaGreatDoorRTie.lean); close each card by the builder's one call (the guide's Derived/Test/ToyasCard.lean, 'card_holds'). Laid BY PROGRAM, IN A SANDBOX (cutbox-door.mjs). By AI agents, Wed Nov 11 2026. No macro, syntax, notation, axiom, sorry.
-/
import Derived.Test.YteclineblddpbaaGreatDoorRRows
import GoSem.ClaimSeven
namespace Go.Proofs.YteclineblddpbaaGreatDoorR
namespace Rows

/-- THE TIED CARD OF 'letterbaglaw10.CountryTells'. -/
def countryTellsCard : Claim7 := { stood := { row := countryTellsRow, standIns := [], harness := (true, "5bfe68bd36186fe86f2274916b9b47a9e23bb70b27d4d008fbecc72e132986ca"), looks := false }, kinds := [], alts := [], laidByText := true, laidKinds := [.data, .pinned], laidTests := true, laidLooks := .later }
def CountryTellsCardSaid : Prop := Claim7.holds Tryz.pinned (.plain (OpenSpec.ofChange countryTellsSpec)) countryTellsCard

/-- THE TIED CARD OF 'letterbaglaw10.CountryName'. -/
def countryNameCard : Claim7 := { stood := { row := countryNameRow, standIns := [], harness := (true, "5bfe68bd36186fe86f2274916b9b47a9e23bb70b27d4d008fbecc72e132986ca"), looks := false }, kinds := [], alts := [], laidByText := true, laidKinds := [.data, .pinned], laidTests := true, laidLooks := .later }
def CountryNameCardSaid : Prop := Claim7.holds Tryz.pinned (.plain (OpenSpec.ofChange countryNameSpec)) countryNameCard

/-- THE TIED CARD OF 'letterbaglaw10.CountryStream'. -/
def countryStreamCard : Claim7 := { stood := { row := countryStreamRow, standIns := [], harness := (true, "5bfe68bd36186fe86f2274916b9b47a9e23bb70b27d4d008fbecc72e132986ca"), looks := false }, kinds := [], alts := [], laidByText := true, laidKinds := [.data, .pinned], laidTests := true, laidLooks := .later }
def CountryStreamCardSaid : Prop := Claim7.holds Tryz.pinned (.plain (OpenSpec.ofChange countryStreamSpec)) countryStreamCard

/-- THE TIED CARD OF 'letterbaglaw10.CountryRight'. -/
def countryRightCard : Claim7 := { stood := { row := countryRightRow, standIns := [], harness := (true, "5bfe68bd36186fe86f2274916b9b47a9e23bb70b27d4d008fbecc72e132986ca"), looks := false }, kinds := [], alts := [], laidByText := true, laidKinds := [.data, .pinned], laidTests := true, laidLooks := .later }
def CountryRightCardSaid : Prop := Claim7.holds Tryz.pinned (.plain (OpenSpec.ofChange countryRightSpec)) countryRightCard

/-- THE TIED CARD OF 'letterbaglaw10.CountryBack'. -/
def countryBackCard : Claim7 := { stood := { row := countryBackRow, standIns := [], harness := (true, "5bfe68bd36186fe86f2274916b9b47a9e23bb70b27d4d008fbecc72e132986ca"), looks := false }, kinds := [], alts := [], laidByText := true, laidKinds := [.data, .pinned], laidTests := true, laidLooks := .later }
def CountryBackCardSaid : Prop := Claim7.holds Tryz.pinned (.plain (OpenSpec.ofChange countryBackSpec)) countryBackCard

/-- THE TIED CARD OF 'letterbaglaw10.CountryGives'. -/
def countryGivesCard : Claim7 := { stood := { row := countryGivesRow, standIns := [], harness := (true, "5bfe68bd36186fe86f2274916b9b47a9e23bb70b27d4d008fbecc72e132986ca"), looks := false }, kinds := [], alts := [], laidByText := true, laidKinds := [.data, .pinned], laidTests := true, laidLooks := .later }
def CountryGivesCardSaid : Prop := Claim7.holds Tryz.pinned (.plain (OpenSpec.ofChange countryGivesSpec)) countryGivesCard

/-- THE TIED CARD OF 'letterbaglaw10.CountryLines'. -/
def countryLinesCard : Claim7 := { stood := { row := countryLinesRow, standIns := [], harness := (true, "5bfe68bd36186fe86f2274916b9b47a9e23bb70b27d4d008fbecc72e132986ca"), looks := false }, kinds := [], alts := [], laidByText := true, laidKinds := [.data, .pinned], laidTests := true, laidLooks := .later }
def CountryLinesCardSaid : Prop := Claim7.holds Tryz.pinned (.plain (OpenSpec.ofChange countryLinesSpec)) countryLinesCard

/-- THE TIED CARD OF 'letterbaglaw10.CountryNames'. -/
def countryNamesCard : Claim7 := { stood := { row := countryNamesRow, standIns := [], harness := (true, "5bfe68bd36186fe86f2274916b9b47a9e23bb70b27d4d008fbecc72e132986ca"), looks := false }, kinds := [], alts := [], laidByText := true, laidKinds := [.data, .pinned], laidTests := true, laidLooks := .later }
def CountryNamesCardSaid : Prop := Claim7.holds Tryz.pinned (.plain (OpenSpec.ofChange countryNamesSpec)) countryNamesCard

/-- THE TIED CARD OF 'letterbaglaw10.CountrySmall'. -/
def countrySmallCard : Claim7 := { stood := { row := countrySmallRow, standIns := [], harness := (true, "5bfe68bd36186fe86f2274916b9b47a9e23bb70b27d4d008fbecc72e132986ca"), looks := false }, kinds := [], alts := [], laidByText := true, laidKinds := [.data, .pinned], laidTests := true, laidLooks := .later }
def CountrySmallCardSaid : Prop := Claim7.holds Tryz.pinned (.plain (OpenSpec.ofChange countrySmallSpec)) countrySmallCard

/-- THE SECOND FORM's CARD OF 'letterbaglaw10.CountryTells'. -/
def countryTellsUptoCard : Claim7 := { stood := { row := countryTellsUptoRow, standIns := [], harness := (true, "5bfe68bd36186fe86f2274916b9b47a9e23bb70b27d4d008fbecc72e132986ca"), looks := false }, kinds := [], alts := [], laidByText := true, laidKinds := [.data, .pinned], laidTests := true, laidLooks := .later }
def CountryTellsUptoCardSaid : Prop := Claim7.holds Tryz.pinned (.plain (OpenSpec.upto countryTellsSpec)) countryTellsUptoCard

/-- THE SECOND FORM's CARD OF 'letterbaglaw10.CountryName'. -/
def countryNameUptoCard : Claim7 := { stood := { row := countryNameUptoRow, standIns := [], harness := (true, "5bfe68bd36186fe86f2274916b9b47a9e23bb70b27d4d008fbecc72e132986ca"), looks := false }, kinds := [], alts := [], laidByText := true, laidKinds := [.data, .pinned], laidTests := true, laidLooks := .later }
def CountryNameUptoCardSaid : Prop := Claim7.holds Tryz.pinned (.plain (OpenSpec.upto countryNameSpec)) countryNameUptoCard

/-- THE SECOND FORM's CARD OF 'letterbaglaw10.CountryStream'. -/
def countryStreamUptoCard : Claim7 := { stood := { row := countryStreamUptoRow, standIns := [], harness := (true, "5bfe68bd36186fe86f2274916b9b47a9e23bb70b27d4d008fbecc72e132986ca"), looks := false }, kinds := [], alts := [], laidByText := true, laidKinds := [.data, .pinned], laidTests := true, laidLooks := .later }
def CountryStreamUptoCardSaid : Prop := Claim7.holds Tryz.pinned (.plain (OpenSpec.upto countryStreamSpec)) countryStreamUptoCard

/-- THE SECOND FORM's CARD OF 'letterbaglaw10.CountryRight'. -/
def countryRightUptoCard : Claim7 := { stood := { row := countryRightUptoRow, standIns := [], harness := (true, "5bfe68bd36186fe86f2274916b9b47a9e23bb70b27d4d008fbecc72e132986ca"), looks := false }, kinds := [], alts := [], laidByText := true, laidKinds := [.data, .pinned], laidTests := true, laidLooks := .later }
def CountryRightUptoCardSaid : Prop := Claim7.holds Tryz.pinned (.plain (OpenSpec.upto countryRightSpec)) countryRightUptoCard

/-- THE SECOND FORM's CARD OF 'letterbaglaw10.CountryBack'. -/
def countryBackUptoCard : Claim7 := { stood := { row := countryBackUptoRow, standIns := [], harness := (true, "5bfe68bd36186fe86f2274916b9b47a9e23bb70b27d4d008fbecc72e132986ca"), looks := false }, kinds := [], alts := [], laidByText := true, laidKinds := [.data, .pinned], laidTests := true, laidLooks := .later }
def CountryBackUptoCardSaid : Prop := Claim7.holds Tryz.pinned (.plain (OpenSpec.upto countryBackSpec)) countryBackUptoCard

/-- THE SECOND FORM's CARD OF 'letterbaglaw10.CountryGives'. -/
def countryGivesUptoCard : Claim7 := { stood := { row := countryGivesUptoRow, standIns := [], harness := (true, "5bfe68bd36186fe86f2274916b9b47a9e23bb70b27d4d008fbecc72e132986ca"), looks := false }, kinds := [], alts := [], laidByText := true, laidKinds := [.data, .pinned], laidTests := true, laidLooks := .later }
def CountryGivesUptoCardSaid : Prop := Claim7.holds Tryz.pinned (.plain (OpenSpec.upto countryGivesSpec)) countryGivesUptoCard

/-- THE SECOND FORM's CARD OF 'letterbaglaw10.CountryLines'. -/
def countryLinesUptoCard : Claim7 := { stood := { row := countryLinesUptoRow, standIns := [], harness := (true, "5bfe68bd36186fe86f2274916b9b47a9e23bb70b27d4d008fbecc72e132986ca"), looks := false }, kinds := [], alts := [], laidByText := true, laidKinds := [.data, .pinned], laidTests := true, laidLooks := .later }
def CountryLinesUptoCardSaid : Prop := Claim7.holds Tryz.pinned (.plain (OpenSpec.upto countryLinesSpec)) countryLinesUptoCard

/-- THE SECOND FORM's CARD OF 'letterbaglaw10.CountryNames'. -/
def countryNamesUptoCard : Claim7 := { stood := { row := countryNamesUptoRow, standIns := [], harness := (true, "5bfe68bd36186fe86f2274916b9b47a9e23bb70b27d4d008fbecc72e132986ca"), looks := false }, kinds := [], alts := [], laidByText := true, laidKinds := [.data, .pinned], laidTests := true, laidLooks := .later }
def CountryNamesUptoCardSaid : Prop := Claim7.holds Tryz.pinned (.plain (OpenSpec.upto countryNamesSpec)) countryNamesUptoCard

/-- THE SECOND FORM's CARD OF 'letterbaglaw10.CountrySmall'. -/
def countrySmallUptoCard : Claim7 := { stood := { row := countrySmallUptoRow, standIns := [], harness := (true, "5bfe68bd36186fe86f2274916b9b47a9e23bb70b27d4d008fbecc72e132986ca"), looks := false }, kinds := [], alts := [], laidByText := true, laidKinds := [.data, .pinned], laidTests := true, laidLooks := .later }
def CountrySmallUptoCardSaid : Prop := Claim7.holds Tryz.pinned (.plain (OpenSpec.upto countrySmallSpec)) countrySmallUptoCard
end Rows
end Go.Proofs.YteclineblddpbaaGreatDoorR
