/-
  DERIVED. GIVEN WITH THE SEED: THE CARDS: each row of YthchdbjgjnpooaaDoorRows.lean that lists a variable, with what it lists TIED to the program's text (the seventh form; the later family's looks); each row that meets fmt, with fmt's text TOLD by the authors' own Lean function (tested against real Go, not proved from fmt's source: count such statements apart). THE CARD IS WHAT COUNTS. Prove the row's statement (the work); the ties are given (YthchdbjgjnpooaaDoorTie.lean); close each card by the builder's one call (the guide's Derived/Test/ToyasCard.lean, 'card_holds'). Laid BY PROGRAM, IN A SANDBOX (cutbox-door.mjs). By AI agents, Wed Nov 11 2026. No macro, syntax, notation, axiom, sorry.
-/
import Derived.Test.YthchdbjgjnpooaaDoorRows
import GoSem.ClaimSeven
namespace Go.Proofs.YthchdbjgjnpooaaDoor
namespace Rows

/-- THE TIED CARD OF 'laws.FnReduced'. -/
def fnReducedCard : Claim7 := { stood := { row := fnReducedRow, standIns := [], harness := (true, "befaa32d8608278262542bdd16ed7565a3d0d218e55811ae913b0c1461832a87"), looks := false }, kinds := [], alts := [], laidByText := true, laidKinds := [.data], laidTests := true, laidLooks := .later }
def FnReducedCardSaid : Prop := Claim7.holds Tryd.pinned (.plain (OpenSpec.ofChange fnReducedSpec)) fnReducedCard

/-- THE TIED CARD OF 'laws.FnExactReduceEquations'. -/
def fnExactReduceEquationsCard : Claim7 := { stood := { row := fnExactReduceEquationsRow, standIns := [], harness := (true, "befaa32d8608278262542bdd16ed7565a3d0d218e55811ae913b0c1461832a87"), looks := false }, kinds := [], alts := [], laidByText := true, laidKinds := [.data], laidTests := true, laidLooks := .later }
def FnExactReduceEquationsCardSaid : Prop := Claim7.holds Tryd.pinned (.plain (OpenSpec.ofChange fnExactReduceEquationsSpec)) fnExactReduceEquationsCard

/-- THE SECOND FORM's CARD OF 'laws.FnReduced'. -/
def fnReducedUptoCard : Claim7 := { stood := { row := fnReducedUptoRow, standIns := [], harness := (true, "befaa32d8608278262542bdd16ed7565a3d0d218e55811ae913b0c1461832a87"), looks := false }, kinds := [], alts := [], laidByText := true, laidKinds := [.data], laidTests := true, laidLooks := .later }
def FnReducedUptoCardSaid : Prop := Claim7.holds Tryd.pinned (.plain (OpenSpec.upto fnReducedSpec)) fnReducedUptoCard

/-- THE SECOND FORM's CARD OF 'laws.FnExactReduceEquations'. -/
def fnExactReduceEquationsUptoCard : Claim7 := { stood := { row := fnExactReduceEquationsUptoRow, standIns := [], harness := (true, "befaa32d8608278262542bdd16ed7565a3d0d218e55811ae913b0c1461832a87"), looks := false }, kinds := [], alts := [], laidByText := true, laidKinds := [.data], laidTests := true, laidLooks := .later }
def FnExactReduceEquationsUptoCardSaid : Prop := Claim7.holds Tryd.pinned (.plain (OpenSpec.upto fnExactReduceEquationsSpec)) fnExactReduceEquationsUptoCard
end Rows
end Go.Proofs.YthchdbjgjnpooaaDoor
