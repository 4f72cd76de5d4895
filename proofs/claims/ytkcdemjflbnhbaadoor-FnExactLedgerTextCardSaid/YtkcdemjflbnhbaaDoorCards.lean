/-
  DERIVED. GIVEN WITH THE SEED: THE CARDS: each row of YtkcdemjflbnhbaaDoorRows.lean that lists a variable, with what it lists TIED to the program's text (the seventh form; the later family's looks); each row that meets fmt, with fmt's text TOLD by the authors' own Lean function (tested against real Go, not proved from fmt's source: count such statements apart). THE CARD IS WHAT COUNTS. Prove the row's statement (the work); the ties are given (YtkcdemjflbnhbaaDoorTie.lean); close each card by the builder's one call (the guide's Derived/Test/ToyasCard.lean, 'card_holds'). Laid BY PROGRAM, IN A SANDBOX (cutbox-door.mjs). By AI agents, Wed Nov 11 2026. No macro, syntax, notation, axiom, sorry.
-/
import Derived.Test.YtkcdemjflbnhbaaDoorRows
import GoSem.ClaimSeven
namespace Go.Proofs.YtkcdemjflbnhbaaDoor
namespace Rows

/-- THE TIED CARD OF 'laws.FnExactLedgerText'. -/
def fnExactLedgerTextCard : Claim7 := { stood := { row := fnExactLedgerTextRow, standIns := [], harness := (true, "6c39add3e9d6998fff6c6dda06de2fbf0ea3a302c9723a10e35961c3422b03f6"), looks := true }, kinds := [], alts := [], laidByText := true, laidKinds := [.data, .data, .data], laidTests := true, laidLooks := .later }
def FnExactLedgerTextCardSaid : Prop := Claim7.holds Tryd.pinned (.plain (OpenSpec.ofChange fnExactLedgerTextSpec)) fnExactLedgerTextCard

/-- THE TIED CARD OF 'laws.FnExactReadLedger'. -/
def fnExactReadLedgerCard : Claim7 := { stood := { row := fnExactReadLedgerRow, standIns := [], harness := (true, "6c39add3e9d6998fff6c6dda06de2fbf0ea3a302c9723a10e35961c3422b03f6"), looks := true }, kinds := [], alts := [], laidByText := true, laidKinds := [.data, .data, .data, .data, .sentinel, .sentinel, .pinned], laidTests := true, laidLooks := .later }
def FnExactReadLedgerCardSaid : Prop := Claim7.holds Tryd.pinned (.plain (OpenSpec.ofChange fnExactReadLedgerSpec)) fnExactReadLedgerCard

/-- THE TIED CARD OF 'laws.FnLedger'. -/
def fnLedgerCard : Claim7 := { stood := { row := fnLedgerRow, standIns := [], harness := (true, "6c39add3e9d6998fff6c6dda06de2fbf0ea3a302c9723a10e35961c3422b03f6"), looks := true }, kinds := [], alts := [], laidByText := true, laidKinds := [.data, .data, .data, .data, .sentinel, .sentinel, .pinned], laidTests := true, laidLooks := .later }
def FnLedgerCardSaid : Prop := Claim7.holds Tryd.pinned (.plain (OpenSpec.ofChange fnLedgerSpec)) fnLedgerCard

/-- THE SECOND FORM's CARD OF 'laws.FnExactLedgerText'. -/
def fnExactLedgerTextUptoCard : Claim7 := { stood := { row := fnExactLedgerTextUptoRow, standIns := [], harness := (true, "6c39add3e9d6998fff6c6dda06de2fbf0ea3a302c9723a10e35961c3422b03f6"), looks := true }, kinds := [], alts := [], laidByText := true, laidKinds := [.data, .data, .data], laidTests := true, laidLooks := .later }
def FnExactLedgerTextUptoCardSaid : Prop := Claim7.holds Tryd.pinned (.plain (OpenSpec.upto fnExactLedgerTextSpec)) fnExactLedgerTextUptoCard

/-- THE SECOND FORM's CARD OF 'laws.FnExactReadLedger'. -/
def fnExactReadLedgerUptoCard : Claim7 := { stood := { row := fnExactReadLedgerUptoRow, standIns := [], harness := (true, "6c39add3e9d6998fff6c6dda06de2fbf0ea3a302c9723a10e35961c3422b03f6"), looks := true }, kinds := [], alts := [], laidByText := true, laidKinds := [.data, .data, .data, .data, .sentinel, .sentinel, .pinned], laidTests := true, laidLooks := .later }
def FnExactReadLedgerUptoCardSaid : Prop := Claim7.holds Tryd.pinned (.plain (OpenSpec.upto fnExactReadLedgerSpec)) fnExactReadLedgerUptoCard

/-- THE SECOND FORM's CARD OF 'laws.FnLedger'. -/
def fnLedgerUptoCard : Claim7 := { stood := { row := fnLedgerUptoRow, standIns := [], harness := (true, "6c39add3e9d6998fff6c6dda06de2fbf0ea3a302c9723a10e35961c3422b03f6"), looks := true }, kinds := [], alts := [], laidByText := true, laidKinds := [.data, .data, .data, .data, .sentinel, .sentinel, .pinned], laidTests := true, laidLooks := .later }
def FnLedgerUptoCardSaid : Prop := Claim7.holds Tryd.pinned (.plain (OpenSpec.upto fnLedgerSpec)) fnLedgerUptoCard
end Rows
end Go.Proofs.YtkcdemjflbnhbaaDoor
