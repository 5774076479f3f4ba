/-
  No cell of these rows narrows 'for every input' (looked for: loops, veiled, ifaces, maps, wideKeys, modest, calm, conditions, laid).
  DERIVED. THE GIVEN ROWS OF THIS SEAT. 7 by the template 'for every input the law returns true; each argument reads behind the call as it read before'; 0 by the template 'total and deterministic' (their statements: YthbnbfeolfkkaaaTotals.lean).
  GIVEN WITH THE SEED: the statements are not yours to turn. If you find one false, say at which input.
  Laid BY PROGRAM, IN A SANDBOX (cutbox-rows.mjs): the forced cells as the released guide's own fill.sh prints them over the translation e2cc2688d1b37e08… (all of the seat's roots in one cut). By AI agents, Wed Nov 11 2026. No macro, syntax, notation, axiom, sorry.
-/
import Derived.Test.YthbnbfeolfkkaaaChecked
import GoSem.Claim
import GoSem.ClaimJoined
import GoSem.ClaimMapViews
import Derived.JoinedTies
import Derived.KernelRfl
namespace Go.Proofs.Ythbnbfeolfkkaaa
/- THE CELL 'sum', in the pinned program and in every row, IS THE sha256 OF THE DUMP (.gsa) THAT YthbnbfeolfkkaaaProg.lean LOADS. Nothing in Lean hashes anything: it is a label: what it is worth is what the hold of that sum in a sandbox is worth. -/
noncomputable def Try.pinned : Pinned := { name := "ythbnbfeolfkkaaa", sum := "e2cc2688d1b37e08370551635d36c4db72795c0f5deff72f6ab1989d6f6cbc6f", checked := Try.checked }
namespace Rows
def none {H : Type} : Left H := { results := [], args := [] }

/-- 'letterbaglaw24.TariffTells': WHATEVER THE INPUT: true; the input reads as it did. -/
def tariffTellsSpec : ChangeSpec := { name := "tariffTells", fn := fun _ => fun
  | [d1, d2, d3, d4, d5, d6] => { results := [.lit (.bool true)], args := [d1, d2, d3, d4, d5, d6] }
  | _ => none }
def tariffTellsRow : OpenClaim := { program := "ythbnbfeolfkkaaa", sum := "e2cc2688d1b37e08370551635d36c4db72795c0f5deff72f6ab1989d6f6cbc6f", func := "letterbag/letterbaglaw24.TariffTells", spec := "tariffTells", unfollowed := true, recurses := true, plainKeys := false, apart := false }
def TariffTellsSaid : Prop := tariffTellsRow.holds Try.pinned (OpenSpec.ofChange tariffTellsSpec)

/-- ITS FALSE NEIGHBOUR: 'it returns false'. Refute it at one input. -/
def tariffTellsWrong : ChangeSpec := { name := "tariffTells", fn := fun _ => fun
  | [d1, d2, d3, d4, d5, d6] => { results := [.lit (.bool false)], args := [d1, d2, d3, d4, d5, d6] }
  | _ => none }
def TariffTellsWrongFalsely : Prop := tariffTellsRow.holds Try.pinned (OpenSpec.ofChange tariffTellsWrong)

/-- 'letterbaglaw24.TariffAdds': WHATEVER THE INPUT: true; the input reads as it did. -/
def tariffAddsSpec : ChangeSpec := { name := "tariffAdds", fn := fun _ => fun
  | [d1, d2, d3, d4, d5, d6, d7] => { results := [.lit (.bool true)], args := [d1, d2, d3, d4, d5, d6, d7] }
  | _ => none }
def tariffAddsRow : OpenClaim := { program := "ythbnbfeolfkkaaa", sum := "e2cc2688d1b37e08370551635d36c4db72795c0f5deff72f6ab1989d6f6cbc6f", func := "letterbag/letterbaglaw24.TariffAdds", spec := "tariffAdds", unfollowed := true, recurses := true, plainKeys := false, apart := false }
def TariffAddsSaid : Prop := tariffAddsRow.holds Try.pinned (OpenSpec.ofChange tariffAddsSpec)

/-- ITS FALSE NEIGHBOUR: 'it returns false'. Refute it at one input. -/
def tariffAddsWrong : ChangeSpec := { name := "tariffAdds", fn := fun _ => fun
  | [d1, d2, d3, d4, d5, d6, d7] => { results := [.lit (.bool false)], args := [d1, d2, d3, d4, d5, d6, d7] }
  | _ => none }
def TariffAddsWrongFalsely : Prop := tariffAddsRow.holds Try.pinned (OpenSpec.ofChange tariffAddsWrong)

/-- 'letterbaglaw24.TariffSteps': WHATEVER THE INPUT: true; the input reads as it did. -/
def tariffStepsSpec : ChangeSpec := { name := "tariffSteps", fn := fun _ => fun
  | [d1, d2, d3, d4, d5] => { results := [.lit (.bool true)], args := [d1, d2, d3, d4, d5] }
  | _ => none }
def tariffStepsRow : OpenClaim := { program := "ythbnbfeolfkkaaa", sum := "e2cc2688d1b37e08370551635d36c4db72795c0f5deff72f6ab1989d6f6cbc6f", func := "letterbag/letterbaglaw24.TariffSteps", spec := "tariffSteps", unfollowed := true, recurses := true, plainKeys := false, apart := false }
def TariffStepsSaid : Prop := tariffStepsRow.holds Try.pinned (OpenSpec.ofChange tariffStepsSpec)

/-- ITS FALSE NEIGHBOUR: 'it returns false'. Refute it at one input. -/
def tariffStepsWrong : ChangeSpec := { name := "tariffSteps", fn := fun _ => fun
  | [d1, d2, d3, d4, d5] => { results := [.lit (.bool false)], args := [d1, d2, d3, d4, d5] }
  | _ => none }
def TariffStepsWrongFalsely : Prop := tariffStepsRow.holds Try.pinned (OpenSpec.ofChange tariffStepsWrong)

/-- 'letterbaglaw24.TariffRows': WHATEVER THE INPUT: true; the input reads as it did. -/
def tariffRowsSpec : ChangeSpec := { name := "tariffRows", fn := fun _ => fun
  | [d1, d2, d3, d4, d5, d6] => { results := [.lit (.bool true)], args := [d1, d2, d3, d4, d5, d6] }
  | _ => none }
def tariffRowsRow : OpenClaim := { program := "ythbnbfeolfkkaaa", sum := "e2cc2688d1b37e08370551635d36c4db72795c0f5deff72f6ab1989d6f6cbc6f", func := "letterbag/letterbaglaw24.TariffRows", spec := "tariffRows", unfollowed := true, recurses := true, plainKeys := false, apart := false }
def TariffRowsSaid : Prop := tariffRowsRow.holds Try.pinned (OpenSpec.ofChange tariffRowsSpec)

/-- ITS FALSE NEIGHBOUR: 'it returns false'. Refute it at one input. -/
def tariffRowsWrong : ChangeSpec := { name := "tariffRows", fn := fun _ => fun
  | [d1, d2, d3, d4, d5, d6] => { results := [.lit (.bool false)], args := [d1, d2, d3, d4, d5, d6] }
  | _ => none }
def TariffRowsWrongFalsely : Prop := tariffRowsRow.holds Try.pinned (OpenSpec.ofChange tariffRowsWrong)

/-- 'letterbaglaw24.TariffLevels': WHATEVER THE INPUT: true; the input reads as it did. -/
def tariffLevelsSpec : ChangeSpec := { name := "tariffLevels", fn := fun _ => fun
  | [d1, d2, d3, d4, d5, d6] => { results := [.lit (.bool true)], args := [d1, d2, d3, d4, d5, d6] }
  | _ => none }
def tariffLevelsRow : OpenClaim := { program := "ythbnbfeolfkkaaa", sum := "e2cc2688d1b37e08370551635d36c4db72795c0f5deff72f6ab1989d6f6cbc6f", func := "letterbag/letterbaglaw24.TariffLevels", spec := "tariffLevels", unfollowed := true, recurses := true, plainKeys := false, apart := false }
def TariffLevelsSaid : Prop := tariffLevelsRow.holds Try.pinned (OpenSpec.ofChange tariffLevelsSpec)

/-- ITS FALSE NEIGHBOUR: 'it returns false'. Refute it at one input. -/
def tariffLevelsWrong : ChangeSpec := { name := "tariffLevels", fn := fun _ => fun
  | [d1, d2, d3, d4, d5, d6] => { results := [.lit (.bool false)], args := [d1, d2, d3, d4, d5, d6] }
  | _ => none }
def TariffLevelsWrongFalsely : Prop := tariffLevelsRow.holds Try.pinned (OpenSpec.ofChange tariffLevelsWrong)

/-- 'letterbaglaw24.TariffWrong': WHATEVER THE INPUT: true; the input reads as it did. -/
def tariffWrongSpec : ChangeSpec := { name := "tariffWrong", fn := fun _ => fun
  | [d1, d2, d3, d4] => { results := [.lit (.bool true)], args := [d1, d2, d3, d4] }
  | _ => none }
def tariffWrongRow : OpenClaim := { program := "ythbnbfeolfkkaaa", sum := "e2cc2688d1b37e08370551635d36c4db72795c0f5deff72f6ab1989d6f6cbc6f", func := "letterbag/letterbaglaw24.TariffWrong", spec := "tariffWrong", unfollowed := true, recurses := true, plainKeys := false, apart := false }
def TariffWrongSaid : Prop := tariffWrongRow.holds Try.pinned (OpenSpec.ofChange tariffWrongSpec)

/-- ITS FALSE NEIGHBOUR: 'it returns false'. Refute it at one input. -/
def tariffWrongWrong : ChangeSpec := { name := "tariffWrong", fn := fun _ => fun
  | [d1, d2, d3, d4] => { results := [.lit (.bool false)], args := [d1, d2, d3, d4] }
  | _ => none }
def TariffWrongWrongFalsely : Prop := tariffWrongRow.holds Try.pinned (OpenSpec.ofChange tariffWrongWrong)

/-- 'letterbaglaw24.TariffOrder': WHATEVER THE INPUT: true; the input reads as it did. -/
def tariffOrderSpec : ChangeSpec := { name := "tariffOrder", fn := fun _ => fun
  | [d1, d2, d3, d4, d5] => { results := [.lit (.bool true)], args := [d1, d2, d3, d4, d5] }
  | _ => none }
def tariffOrderRow : OpenClaim := { program := "ythbnbfeolfkkaaa", sum := "e2cc2688d1b37e08370551635d36c4db72795c0f5deff72f6ab1989d6f6cbc6f", func := "letterbag/letterbaglaw24.TariffOrder", spec := "tariffOrder", unfollowed := true, recurses := true, plainKeys := false, apart := false }
def TariffOrderSaid : Prop := tariffOrderRow.holds Try.pinned (OpenSpec.ofChange tariffOrderSpec)

/-- ITS FALSE NEIGHBOUR: 'it returns false'. Refute it at one input. -/
def tariffOrderWrong : ChangeSpec := { name := "tariffOrder", fn := fun _ => fun
  | [d1, d2, d3, d4, d5] => { results := [.lit (.bool false)], args := [d1, d2, d3, d4, d5] }
  | _ => none }
def TariffOrderWrongFalsely : Prop := tariffOrderRow.holds Try.pinned (OpenSpec.ofChange tariffOrderWrong)

/- THE SECOND FORM. 'bulk': how many values and letters a reading holds, each counted each time it is reached (what is shared counts as often as it is met; a slice's spare places count too). A statement '..UptoSaid' is the law's where the arguments, and the package variables that the reading takes, are together of bulk at most 1048576: NARROWER than '..Said'. Prove '..Said' where nothing that the law and all that it calls make is longer than what came in: it says more and counts as full. Else prove '..UptoSaid'. A law counts once. -/
mutual
def uptoBulk {H : Type} : DataW H → Nat
  | .lit (.string bytes) => bytes.length + 1
  | .lit _ => 1
  | .nil => 1
  | .ptr d => uptoBulk d + 1
  | .slice elems spare => uptoBulkAll elems + uptoBulkAll spare + 1
  | .agg parts => uptoBulkAll parts + 1
  | .iface _ d => uptoBulk d + 1
  | .map entries => uptoBulkEntries entries + 1
  | .held _ => 1
def uptoBulkAll {H : Type} : List (DataW H) → Nat
  | [] => 0
  | d :: r => uptoBulk d + uptoBulkAll r
def uptoBulkEntries {H : Type} : List (Lit × DataW H) → Nat
  | [] => 0
  | x :: r => uptoBulkEntry x + uptoBulkEntries r
def uptoBulkEntry {H : Type} : Lit × DataW H → Nat
  | (.string bytes, d) => bytes.length + uptoBulk d + 1
  | (_, d) => uptoBulk d + 1
 end
def uptoSmall : (H : Type) → List (DataW H) → Bool := fun _ ds => decide (uptoBulkAll ds ≤ 1048576)
def OpenSpec.upto (s : _root_.Go.ChangeSpec) : _root_.Go.OpenSpec := { _root_.Go.OpenSpec.ofChange s with cond := some uptoSmall }

/-- 'letterbaglaw24.TariffTells', WHERE WHAT IT READS IS OF BULK AT MOST 1048576: true; the input reads as it did. -/
def tariffTellsUptoRow : OpenClaim := { program := "ythbnbfeolfkkaaa", sum := "e2cc2688d1b37e08370551635d36c4db72795c0f5deff72f6ab1989d6f6cbc6f", func := "letterbag/letterbaglaw24.TariffTells", spec := "tariffTells", unfollowed := true, recurses := true, plainKeys := false, apart := false, narrowed := true }
def TariffTellsUptoSaid : Prop := tariffTellsUptoRow.holds Try.pinned (OpenSpec.upto tariffTellsSpec)

/-- 'letterbaglaw24.TariffAdds', WHERE WHAT IT READS IS OF BULK AT MOST 1048576: true; the input reads as it did. -/
def tariffAddsUptoRow : OpenClaim := { program := "ythbnbfeolfkkaaa", sum := "e2cc2688d1b37e08370551635d36c4db72795c0f5deff72f6ab1989d6f6cbc6f", func := "letterbag/letterbaglaw24.TariffAdds", spec := "tariffAdds", unfollowed := true, recurses := true, plainKeys := false, apart := false, narrowed := true }
def TariffAddsUptoSaid : Prop := tariffAddsUptoRow.holds Try.pinned (OpenSpec.upto tariffAddsSpec)

/-- 'letterbaglaw24.TariffSteps', WHERE WHAT IT READS IS OF BULK AT MOST 1048576: true; the input reads as it did. -/
def tariffStepsUptoRow : OpenClaim := { program := "ythbnbfeolfkkaaa", sum := "e2cc2688d1b37e08370551635d36c4db72795c0f5deff72f6ab1989d6f6cbc6f", func := "letterbag/letterbaglaw24.TariffSteps", spec := "tariffSteps", unfollowed := true, recurses := true, plainKeys := false, apart := false, narrowed := true }
def TariffStepsUptoSaid : Prop := tariffStepsUptoRow.holds Try.pinned (OpenSpec.upto tariffStepsSpec)

/-- 'letterbaglaw24.TariffRows', WHERE WHAT IT READS IS OF BULK AT MOST 1048576: true; the input reads as it did. -/
def tariffRowsUptoRow : OpenClaim := { program := "ythbnbfeolfkkaaa", sum := "e2cc2688d1b37e08370551635d36c4db72795c0f5deff72f6ab1989d6f6cbc6f", func := "letterbag/letterbaglaw24.TariffRows", spec := "tariffRows", unfollowed := true, recurses := true, plainKeys := false, apart := false, narrowed := true }
def TariffRowsUptoSaid : Prop := tariffRowsUptoRow.holds Try.pinned (OpenSpec.upto tariffRowsSpec)

/-- 'letterbaglaw24.TariffLevels', WHERE WHAT IT READS IS OF BULK AT MOST 1048576: true; the input reads as it did. -/
def tariffLevelsUptoRow : OpenClaim := { program := "ythbnbfeolfkkaaa", sum := "e2cc2688d1b37e08370551635d36c4db72795c0f5deff72f6ab1989d6f6cbc6f", func := "letterbag/letterbaglaw24.TariffLevels", spec := "tariffLevels", unfollowed := true, recurses := true, plainKeys := false, apart := false, narrowed := true }
def TariffLevelsUptoSaid : Prop := tariffLevelsUptoRow.holds Try.pinned (OpenSpec.upto tariffLevelsSpec)

/-- 'letterbaglaw24.TariffWrong', WHERE WHAT IT READS IS OF BULK AT MOST 1048576: true; the input reads as it did. -/
def tariffWrongUptoRow : OpenClaim := { program := "ythbnbfeolfkkaaa", sum := "e2cc2688d1b37e08370551635d36c4db72795c0f5deff72f6ab1989d6f6cbc6f", func := "letterbag/letterbaglaw24.TariffWrong", spec := "tariffWrong", unfollowed := true, recurses := true, plainKeys := false, apart := false, narrowed := true }
def TariffWrongUptoSaid : Prop := tariffWrongUptoRow.holds Try.pinned (OpenSpec.upto tariffWrongSpec)

/-- 'letterbaglaw24.TariffOrder', WHERE WHAT IT READS IS OF BULK AT MOST 1048576: true; the input reads as it did. -/
def tariffOrderUptoRow : OpenClaim := { program := "ythbnbfeolfkkaaa", sum := "e2cc2688d1b37e08370551635d36c4db72795c0f5deff72f6ab1989d6f6cbc6f", func := "letterbag/letterbaglaw24.TariffOrder", spec := "tariffOrder", unfollowed := true, recurses := true, plainKeys := false, apart := false, narrowed := true }
def TariffOrderUptoSaid : Prop := tariffOrderUptoRow.holds Try.pinned (OpenSpec.upto tariffOrderSpec)

end Rows
end Go.Proofs.Ythbnbfeolfkkaaa
