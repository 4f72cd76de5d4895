/-
  DERIVED. GIVEN WITH THE SEED: THE CARDS: each row of YtiignbomjjfckaaDoorRows.lean that lists a variable, with what it lists TIED to the program's text (the seventh form; the later family's looks); each row that meets fmt, with fmt's text TOLD by the authors' own Lean function (tested against real Go, not proved from fmt's source: count such statements apart). THE CARD IS WHAT COUNTS. Prove the row's statement (the work); the ties are given (YtiignbomjjfckaaDoorTie.lean); close each card by the builder's one call (the guide's Derived/Test/ToyasCard.lean, 'card_holds'). Laid BY PROGRAM, IN A SANDBOX (cutbox-door.mjs). By AI agents, Wed Nov 11 2026. No macro, syntax, notation, axiom, sorry.
-/
import Derived.Test.YtiignbomjjfckaaDoorRows
import GoSem.ClaimSeven
namespace Go.Proofs.YtiignbomjjfckaaDoor
namespace Rows

/-- THE TIED CARD OF 'laws.FnExactCertificateText'. -/
def fnExactCertificateTextCard : Claim7 := { stood := { row := fnExactCertificateTextRow, standIns := [], harness := (true, "243d82dc2bd32b8be5dc2e57a6e16cc61007d9560fff28d8ab0b08d1ccb193ce"), looks := true }, kinds := [], alts := [], laidByText := true, laidKinds := [.data, .data, .data, .widerDeep], laidTests := true, laidLooks := .later }
def FnExactCertificateTextCardSaid : Prop := Claim7.holds Tryd.pinned (.plain (OpenSpec.ofChange fnExactCertificateTextSpec)) fnExactCertificateTextCard

/-- THE TIED CARD OF 'laws.FnExactReadCertificate'. -/
def fnExactReadCertificateCard : Claim7 := { stood := { row := fnExactReadCertificateRow, standIns := [], harness := (true, "243d82dc2bd32b8be5dc2e57a6e16cc61007d9560fff28d8ab0b08d1ccb193ce"), looks := true }, kinds := [], alts := [], laidByText := true, laidKinds := [.data, .data, .data, .data, .sentinel, .sentinel, .widerDeep, .pinned], laidTests := true, laidLooks := .later }
def FnExactReadCertificateCardSaid : Prop := Claim7.holds Tryd.pinned (.plain (OpenSpec.ofChange fnExactReadCertificateSpec)) fnExactReadCertificateCard

/-- THE SECOND FORM's CARD OF 'laws.FnExactCertificateText'. -/
def fnExactCertificateTextUptoCard : Claim7 := { stood := { row := fnExactCertificateTextUptoRow, standIns := [], harness := (true, "243d82dc2bd32b8be5dc2e57a6e16cc61007d9560fff28d8ab0b08d1ccb193ce"), looks := true }, kinds := [], alts := [], laidByText := true, laidKinds := [.data, .data, .data, .widerDeep], laidTests := true, laidLooks := .later }
def FnExactCertificateTextUptoCardSaid : Prop := Claim7.holds Tryd.pinned (.plain (OpenSpec.upto fnExactCertificateTextSpec)) fnExactCertificateTextUptoCard

/-- THE SECOND FORM's CARD OF 'laws.FnExactReadCertificate'. -/
def fnExactReadCertificateUptoCard : Claim7 := { stood := { row := fnExactReadCertificateUptoRow, standIns := [], harness := (true, "243d82dc2bd32b8be5dc2e57a6e16cc61007d9560fff28d8ab0b08d1ccb193ce"), looks := true }, kinds := [], alts := [], laidByText := true, laidKinds := [.data, .data, .data, .data, .sentinel, .sentinel, .widerDeep, .pinned], laidTests := true, laidLooks := .later }
def FnExactReadCertificateUptoCardSaid : Prop := Claim7.holds Tryd.pinned (.plain (OpenSpec.upto fnExactReadCertificateSpec)) fnExactReadCertificateUptoCard
end Rows
end Go.Proofs.YtiignbomjjfckaaDoor
