/-
  No cell of these rows narrows 'for every input' (looked for: loops, veiled, ifaces, maps, wideKeys, modest, calm, conditions, laid).
  DERIVED. THE GIVEN ROWS OF THIS SEAT. 4 by the template 'for every input the law returns true; each argument reads behind the call as it read before'; 0 by the template 'total and deterministic' (their statements: YtjkfkjbakokjeaaTotals.lean).
  GIVEN WITH THE SEED: the statements are not yours to turn. If you find one false, say at which input.
  Laid BY PROGRAM, IN A SANDBOX (cutbox-rows.mjs): the forced cells as the released guide's own fill.sh prints them over the translation 37c2e93799c60aef… (all of the seat's roots in one cut). By AI agents, Wed Nov 11 2026. No macro, syntax, notation, axiom, sorry.
-/
import Derived.Test.YtjkfkjbakokjeaaChecked
import GoSem.Claim
import GoSem.ClaimJoined
import GoSem.ClaimMapViews
import Derived.JoinedTies
import Derived.KernelRfl
namespace Go.Proofs.Ytjkfkjbakokjeaa
/- THE CELL 'sum', in the pinned program and in every row, IS THE sha256 OF THE DUMP (.gsa) THAT YtjkfkjbakokjeaaProg.lean LOADS. Nothing in Lean hashes anything: it is a label: what it is worth is what the hold of that sum in a sandbox is worth. -/
noncomputable def Try.pinned : Pinned := { name := "ytjkfkjbakokjeaa", sum := "37c2e93799c60aef16643283de4fde78c3946505be0545d1f0b7a9a484b9f507", checked := Try.checked }
namespace Rows
def none {H : Type} : Left H := { results := [], args := [] }

/-- 'laws.FnExactValidCertificate': WHATEVER THE INPUT: true; the input reads as it did. -/
def fnExactValidCertificateSpec : ChangeSpec := { name := "fnExactValidCertificate", fn := fun _ => fun
  | [d] => { results := [.lit (.bool true)], args := [d] }
  | _ => none }
def fnExactValidCertificateRow : OpenClaim := { program := "ytjkfkjbakokjeaa", sum := "37c2e93799c60aef16643283de4fde78c3946505be0545d1f0b7a9a484b9f507", func := "loop.example/g00899/laws.FnExactValidCertificate", spec := "fnExactValidCertificate", apart := false }
def FnExactValidCertificateSaid : Prop := fnExactValidCertificateRow.holds Try.pinned (OpenSpec.ofChange fnExactValidCertificateSpec)

/-- ITS FALSE NEIGHBOUR: 'it returns false'. Refute it at one input. -/
def fnExactValidCertificateWrong : ChangeSpec := { name := "fnExactValidCertificate", fn := fun _ => fun
  | [d] => { results := [.lit (.bool false)], args := [d] }
  | _ => none }
def FnExactValidCertificateWrongFalsely : Prop := fnExactValidCertificateRow.holds Try.pinned (OpenSpec.ofChange fnExactValidCertificateWrong)

/-- 'laws.FnExactCountSources': WHATEVER THE INPUT: true; the input reads as it did. -/
def fnExactCountSourcesSpec : ChangeSpec := { name := "fnExactCountSources", fn := fun _ => fun
  | [d] => { results := [.lit (.bool true)], args := [d] }
  | _ => none }
def fnExactCountSourcesRow : OpenClaim := { program := "ytjkfkjbakokjeaa", sum := "37c2e93799c60aef16643283de4fde78c3946505be0545d1f0b7a9a484b9f507", func := "loop.example/g00899/laws.FnExactCountSources", spec := "fnExactCountSources", apart := false }
def FnExactCountSourcesSaid : Prop := fnExactCountSourcesRow.holds Try.pinned (OpenSpec.ofChange fnExactCountSourcesSpec)

/-- ITS FALSE NEIGHBOUR: 'it returns false'. Refute it at one input. -/
def fnExactCountSourcesWrong : ChangeSpec := { name := "fnExactCountSources", fn := fun _ => fun
  | [d] => { results := [.lit (.bool false)], args := [d] }
  | _ => none }
def FnExactCountSourcesWrongFalsely : Prop := fnExactCountSourcesRow.holds Try.pinned (OpenSpec.ofChange fnExactCountSourcesWrong)

/-- 'laws.FnExactUncoveredSectors': WHATEVER THE INPUT: true; the input reads as it did. -/
def fnExactUncoveredSectorsSpec : ChangeSpec := { name := "fnExactUncoveredSectors", fn := fun _ => fun
  | [d1, d2] => { results := [.lit (.bool true)], args := [d1, d2] }
  | _ => none }
def fnExactUncoveredSectorsRow : OpenClaim := { program := "ytjkfkjbakokjeaa", sum := "37c2e93799c60aef16643283de4fde78c3946505be0545d1f0b7a9a484b9f507", func := "loop.example/g00899/laws.FnExactUncoveredSectors", spec := "fnExactUncoveredSectors", inPlace := ["internal/abi.NoEscape", "internal/bytealg.MakeNoZero"], apart := false }
def FnExactUncoveredSectorsSaid : Prop := fnExactUncoveredSectorsRow.holds Try.pinned (OpenSpec.ofChange fnExactUncoveredSectorsSpec)

/-- ITS FALSE NEIGHBOUR: 'it returns false'. Refute it at one input. -/
def fnExactUncoveredSectorsWrong : ChangeSpec := { name := "fnExactUncoveredSectors", fn := fun _ => fun
  | [d1, d2] => { results := [.lit (.bool false)], args := [d1, d2] }
  | _ => none }
def FnExactUncoveredSectorsWrongFalsely : Prop := fnExactUncoveredSectorsRow.holds Try.pinned (OpenSpec.ofChange fnExactUncoveredSectorsWrong)

/-- 'laws.FnExactValidEvidence': WHATEVER THE INPUT: true; the input reads as it did. -/
def fnExactValidEvidenceSpec : ChangeSpec := { name := "fnExactValidEvidence", fn := fun _ => fun
  | [d] => { results := [.lit (.bool true)], args := [d] }
  | _ => none }
def fnExactValidEvidenceRow : OpenClaim := { program := "ytjkfkjbakokjeaa", sum := "37c2e93799c60aef16643283de4fde78c3946505be0545d1f0b7a9a484b9f507", func := "loop.example/g00899/laws.FnExactValidEvidence", spec := "fnExactValidEvidence", inPlace := ["internal/abi.NoEscape", "internal/bytealg.MakeNoZero"], apart := false }
def FnExactValidEvidenceSaid : Prop := fnExactValidEvidenceRow.holds Try.pinned (OpenSpec.ofChange fnExactValidEvidenceSpec)

/-- ITS FALSE NEIGHBOUR: 'it returns false'. Refute it at one input. -/
def fnExactValidEvidenceWrong : ChangeSpec := { name := "fnExactValidEvidence", fn := fun _ => fun
  | [d] => { results := [.lit (.bool false)], args := [d] }
  | _ => none }
def FnExactValidEvidenceWrongFalsely : Prop := fnExactValidEvidenceRow.holds Try.pinned (OpenSpec.ofChange fnExactValidEvidenceWrong)

/- THE SECOND FORM. 'bulk': how many values and letters a reading holds, each counted each time it is reached (what is shared counts as often as it is met; a slice's spare places count too). A statement '..UptoSaid' is the law's where the arguments, and the package variables that the reading takes, are together of bulk at most 1048576: NARROWER than '..Said'. Prove '..Said' where nothing that the law and all that it calls make is longer than what came in: it says more and counts as full. Else prove '..UptoSaid'. A law counts once. -/
mutual
def uptoBulk {H : Type} : DataW H → Nat
  | .lit (.string bytes) => bytes.length + 1
  | .lit _ => 1
  | .nil => 1
  | .ptr d => uptoBulk d + 1
  | .slice elems spare => uptoBulkAll elems + uptoBulkAll spare + 1
  | .agg parts => uptoBulkAll parts + 1
  | .iface _ d => uptoBulk d + 1
  | .map entries => uptoBulkEntries entries + 1
  | .held _ => 1
def uptoBulkAll {H : Type} : List (DataW H) → Nat
  | [] => 0
  | d :: r => uptoBulk d + uptoBulkAll r
def uptoBulkEntries {H : Type} : List (Lit × DataW H) → Nat
  | [] => 0
  | x :: r => uptoBulkEntry x + uptoBulkEntries r
def uptoBulkEntry {H : Type} : Lit × DataW H → Nat
  | (.string bytes, d) => bytes.length + uptoBulk d + 1
  | (_, d) => uptoBulk d + 1
 end
def uptoSmall : (H : Type) → List (DataW H) → Bool := fun _ ds => decide (uptoBulkAll ds ≤ 1048576)
def OpenSpec.upto (s : _root_.Go.ChangeSpec) : _root_.Go.OpenSpec := { _root_.Go.OpenSpec.ofChange s with cond := some uptoSmall }

/-- 'laws.FnExactValidCertificate', WHERE WHAT IT READS IS OF BULK AT MOST 1048576: true; the input reads as it did. -/
def fnExactValidCertificateUptoRow : OpenClaim := { program := "ytjkfkjbakokjeaa", sum := "37c2e93799c60aef16643283de4fde78c3946505be0545d1f0b7a9a484b9f507", func := "loop.example/g00899/laws.FnExactValidCertificate", spec := "fnExactValidCertificate", apart := false, narrowed := true }
def FnExactValidCertificateUptoSaid : Prop := fnExactValidCertificateUptoRow.holds Try.pinned (OpenSpec.upto fnExactValidCertificateSpec)

/-- 'laws.FnExactCountSources', WHERE WHAT IT READS IS OF BULK AT MOST 1048576: true; the input reads as it did. -/
def fnExactCountSourcesUptoRow : OpenClaim := { program := "ytjkfkjbakokjeaa", sum := "37c2e93799c60aef16643283de4fde78c3946505be0545d1f0b7a9a484b9f507", func := "loop.example/g00899/laws.FnExactCountSources", spec := "fnExactCountSources", apart := false, narrowed := true }
def FnExactCountSourcesUptoSaid : Prop := fnExactCountSourcesUptoRow.holds Try.pinned (OpenSpec.upto fnExactCountSourcesSpec)

/-- 'laws.FnExactUncoveredSectors', WHERE WHAT IT READS IS OF BULK AT MOST 1048576: true; the input reads as it did. -/
def fnExactUncoveredSectorsUptoRow : OpenClaim := { program := "ytjkfkjbakokjeaa", sum := "37c2e93799c60aef16643283de4fde78c3946505be0545d1f0b7a9a484b9f507", func := "loop.example/g00899/laws.FnExactUncoveredSectors", spec := "fnExactUncoveredSectors", inPlace := ["internal/abi.NoEscape", "internal/bytealg.MakeNoZero"], apart := false, narrowed := true }
def FnExactUncoveredSectorsUptoSaid : Prop := fnExactUncoveredSectorsUptoRow.holds Try.pinned (OpenSpec.upto fnExactUncoveredSectorsSpec)

/-- 'laws.FnExactValidEvidence', WHERE WHAT IT READS IS OF BULK AT MOST 1048576: true; the input reads as it did. -/
def fnExactValidEvidenceUptoRow : OpenClaim := { program := "ytjkfkjbakokjeaa", sum := "37c2e93799c60aef16643283de4fde78c3946505be0545d1f0b7a9a484b9f507", func := "loop.example/g00899/laws.FnExactValidEvidence", spec := "fnExactValidEvidence", inPlace := ["internal/abi.NoEscape", "internal/bytealg.MakeNoZero"], apart := false, narrowed := true }
def FnExactValidEvidenceUptoSaid : Prop := fnExactValidEvidenceUptoRow.holds Try.pinned (OpenSpec.upto fnExactValidEvidenceSpec)

end Rows
end Go.Proofs.Ytjkfkjbakokjeaa
