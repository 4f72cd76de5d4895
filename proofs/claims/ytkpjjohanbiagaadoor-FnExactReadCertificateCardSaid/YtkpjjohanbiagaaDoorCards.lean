/-
  DERIVED. GIVEN WITH THE SEED: THE CARDS: each row of YtkpjjohanbiagaaDoorRows.lean that lists a variable, with what it lists TIED to the program's text (the seventh form; the later family's looks); each row that meets fmt, with fmt's text TOLD by the authors' own Lean function (tested against real Go, not proved from fmt's source: count such statements apart). THE CARD IS WHAT COUNTS. Prove the row's statement (the work); the ties are given (YtkpjjohanbiagaaDoorTie.lean); close each card by the builder's one call (the guide's Derived/Test/ToyasCard.lean, 'card_holds'). Laid BY PROGRAM, IN A SANDBOX (cutbox-door.mjs). By AI agents, Wed Nov 11 2026. No macro, syntax, notation, axiom, sorry.
-/
import Derived.Test.YtkpjjohanbiagaaDoorRows
import GoSem.ClaimSeven
namespace Go.Proofs.YtkpjjohanbiagaaDoor
namespace Rows

/-- THE TIED CARD OF 'laws.FnExactReadCertificate'. -/
def fnExactReadCertificateCard : Claim7 := { stood := { row := fnExactReadCertificateRow, standIns := [], harness := (true, "4c3c1d6c79ab908cd23ccc557455b3ec23b7a357098a8c37853c77a6553f878e"), looks := true }, kinds := [], alts := [], laidByText := true, laidKinds := [.data, .data, .data, .data, .sentinel, .sentinel, .widerDeep, .pinned], laidTests := true, laidLooks := .later }
def FnExactReadCertificateCardSaid : Prop := Claim7.holds Tryd.pinned (.plain (OpenSpec.ofChange fnExactReadCertificateSpec)) fnExactReadCertificateCard

/-- THE TIED CARD OF 'laws.FnExactReadLedger'. -/
def fnExactReadLedgerCard : Claim7 := { stood := { row := fnExactReadLedgerRow, standIns := [], harness := (true, "4c3c1d6c79ab908cd23ccc557455b3ec23b7a357098a8c37853c77a6553f878e"), looks := true }, kinds := [], alts := [], laidByText := true, laidKinds := [.data, .data, .data, .data, .sentinel, .sentinel, .pinned], laidTests := true, laidLooks := .later }
def FnExactReadLedgerCardSaid : Prop := Claim7.holds Tryd.pinned (.plain (OpenSpec.ofChange fnExactReadLedgerSpec)) fnExactReadLedgerCard

/-- THE TIED CARD OF 'laws.FnLedger'. -/
def fnLedgerCard : Claim7 := { stood := { row := fnLedgerRow, standIns := [], harness := (true, "4c3c1d6c79ab908cd23ccc557455b3ec23b7a357098a8c37853c77a6553f878e"), looks := true }, kinds := [], alts := [], laidByText := true, laidKinds := [.data, .data, .data, .data, .sentinel, .sentinel, .pinned], laidTests := true, laidLooks := .later }
def FnLedgerCardSaid : Prop := Claim7.holds Tryd.pinned (.plain (OpenSpec.ofChange fnLedgerSpec)) fnLedgerCard

/-- THE SECOND FORM's CARD OF 'laws.FnExactReadCertificate'. -/
def fnExactReadCertificateUptoCard : Claim7 := { stood := { row := fnExactReadCertificateUptoRow, standIns := [], harness := (true, "4c3c1d6c79ab908cd23ccc557455b3ec23b7a357098a8c37853c77a6553f878e"), looks := true }, kinds := [], alts := [], laidByText := true, laidKinds := [.data, .data, .data, .data, .sentinel, .sentinel, .widerDeep, .pinned], laidTests := true, laidLooks := .later }
def FnExactReadCertificateUptoCardSaid : Prop := Claim7.holds Tryd.pinned (.plain (OpenSpec.upto fnExactReadCertificateSpec)) fnExactReadCertificateUptoCard

/-- THE SECOND FORM's CARD OF 'laws.FnExactReadLedger'. -/
def fnExactReadLedgerUptoCard : Claim7 := { stood := { row := fnExactReadLedgerUptoRow, standIns := [], harness := (true, "4c3c1d6c79ab908cd23ccc557455b3ec23b7a357098a8c37853c77a6553f878e"), looks := true }, kinds := [], alts := [], laidByText := true, laidKinds := [.data, .data, .data, .data, .sentinel, .sentinel, .pinned], laidTests := true, laidLooks := .later }
def FnExactReadLedgerUptoCardSaid : Prop := Claim7.holds Tryd.pinned (.plain (OpenSpec.upto fnExactReadLedgerSpec)) fnExactReadLedgerUptoCard

/-- THE SECOND FORM's CARD OF 'laws.FnLedger'. -/
def fnLedgerUptoCard : Claim7 := { stood := { row := fnLedgerUptoRow, standIns := [], harness := (true, "4c3c1d6c79ab908cd23ccc557455b3ec23b7a357098a8c37853c77a6553f878e"), looks := true }, kinds := [], alts := [], laidByText := true, laidKinds := [.data, .data, .data, .data, .sentinel, .sentinel, .pinned], laidTests := true, laidLooks := .later }
def FnLedgerUptoCardSaid : Prop := Claim7.holds Tryd.pinned (.plain (OpenSpec.upto fnLedgerSpec)) fnLedgerUptoCard
end Rows
end Go.Proofs.YtkpjjohanbiagaaDoor
