/-
  No cell of these rows narrows 'for every input' (looked for: loops, veiled, ifaces, maps, wideKeys, modest, calm, conditions, laid).
  DERIVED. THE GIVEN ROWS OF THIS SEAT. 5 by the template 'for every input the law returns true; each argument reads behind the call as it read before'; 0 by the template 'total and deterministic' (their statements: YtfcdienphillnaaGreatTotals.lean).
  GIVEN WITH THE SEED: the statements are not yours to turn. If you find one false, say at which input.
  Laid BY PROGRAM, IN A SANDBOX (cutbox-rows.mjs): the forced cells as the released guide's own fill.sh prints them over the translation edfdc22360065ff5… (all of the seat's roots in one cut). By AI agents, Wed Nov 11 2026. No macro, syntax, notation, axiom, sorry.
-/
import Derived.Test.YtfcdienphillnaaGreatChecked
import GoSem.Claim
import GoSem.ClaimJoined
import GoSem.ClaimMapViews
import Derived.JoinedTies
import Derived.KernelRfl
namespace Go.Proofs.YtfcdienphillnaaGreat
/- THE CELL 'sum', in the pinned program and in every row, IS THE sha256 OF THE DUMP (.gsa) THAT YtfcdienphillnaaGreatProg.lean LOADS. Nothing in Lean hashes anything: it is a label: what it is worth is what the hold of that sum in a sandbox is worth. -/
noncomputable def Tryz.pinned : Pinned := { name := "ytfcdienphillnaagreat", sum := "edfdc22360065ff571c5af42a5d73f90b8c8255bee45855aa7ed63f95775e552", checked := Tryz.checked }
namespace Rows
def none {H : Type} : Left H := { results := [], args := [] }

/-- 'laws.FnExactCheckSource': WHATEVER THE INPUT: true; the input reads as it did. -/
def fnExactCheckSourceSpec : ChangeSpec := { name := "fnExactCheckSource", fn := fun _ => fun
  | [d1, d2, d3, d4] => { results := [.lit (.bool true)], args := [d1, d2, d3, d4] }
  | _ => none }
def fnExactCheckSourceRow : OpenClaim := { program := "ytfcdienphillnaagreat", sum := "edfdc22360065ff571c5af42a5d73f90b8c8255bee45855aa7ed63f95775e552", func := "loop.example/g00899/laws.FnExactCheckSource", spec := "fnExactCheckSource", inPlace := ["internal/abi.NoEscape", "internal/bytealg.MakeNoZero"], unfollowed := true, recurses := true, apart := false }
def FnExactCheckSourceSaid : Prop := fnExactCheckSourceRow.holds Tryz.pinned (OpenSpec.ofChange fnExactCheckSourceSpec)

/-- ITS FALSE NEIGHBOUR: 'it returns false'. Refute it at one input. -/
def fnExactCheckSourceWrong : ChangeSpec := { name := "fnExactCheckSource", fn := fun _ => fun
  | [d1, d2, d3, d4] => { results := [.lit (.bool false)], args := [d1, d2, d3, d4] }
  | _ => none }
def FnExactCheckSourceWrongFalsely : Prop := fnExactCheckSourceRow.holds Tryz.pinned (OpenSpec.ofChange fnExactCheckSourceWrong)

/-- 'laws.FnExactCheckCertificate': WHATEVER THE INPUT: true; the input reads as it did. -/
def fnExactCheckCertificateSpec : ChangeSpec := { name := "fnExactCheckCertificate", fn := fun _ => fun
  | [d1, d2, d3] => { results := [.lit (.bool true)], args := [d1, d2, d3] }
  | _ => none }
def fnExactCheckCertificateRow : OpenClaim := { program := "ytfcdienphillnaagreat", sum := "edfdc22360065ff571c5af42a5d73f90b8c8255bee45855aa7ed63f95775e552", func := "loop.example/g00899/laws.FnExactCheckCertificate", spec := "fnExactCheckCertificate", inPlace := ["internal/abi.NoEscape", "internal/bytealg.MakeNoZero"], unfollowed := true, recurses := true, apart := false }
def FnExactCheckCertificateSaid : Prop := fnExactCheckCertificateRow.holds Tryz.pinned (OpenSpec.ofChange fnExactCheckCertificateSpec)

/-- ITS FALSE NEIGHBOUR: 'it returns false'. Refute it at one input. -/
def fnExactCheckCertificateWrong : ChangeSpec := { name := "fnExactCheckCertificate", fn := fun _ => fun
  | [d1, d2, d3] => { results := [.lit (.bool false)], args := [d1, d2, d3] }
  | _ => none }
def FnExactCheckCertificateWrongFalsely : Prop := fnExactCheckCertificateRow.holds Tryz.pinned (OpenSpec.ofChange fnExactCheckCertificateWrong)

/-- 'laws.FnExactLostSectors': WHATEVER THE INPUT: true; the input reads as it did. -/
def fnExactLostSectorsSpec : ChangeSpec := { name := "fnExactLostSectors", fn := fun _ => fun
  | [d] => { results := [.lit (.bool true)], args := [d] }
  | _ => none }
def fnExactLostSectorsRow : OpenClaim := { program := "ytfcdienphillnaagreat", sum := "edfdc22360065ff571c5af42a5d73f90b8c8255bee45855aa7ed63f95775e552", func := "loop.example/g00899/laws.FnExactLostSectors", spec := "fnExactLostSectors", inPlace := ["internal/abi.NoEscape", "internal/bytealg.MakeNoZero"], unfollowed := true, recurses := true, apart := false }
def FnExactLostSectorsSaid : Prop := fnExactLostSectorsRow.holds Tryz.pinned (OpenSpec.ofChange fnExactLostSectorsSpec)

/-- ITS FALSE NEIGHBOUR: 'it returns false'. Refute it at one input. -/
def fnExactLostSectorsWrong : ChangeSpec := { name := "fnExactLostSectors", fn := fun _ => fun
  | [d] => { results := [.lit (.bool false)], args := [d] }
  | _ => none }
def FnExactLostSectorsWrongFalsely : Prop := fnExactLostSectorsRow.holds Tryz.pinned (OpenSpec.ofChange fnExactLostSectorsWrong)

/-- 'laws.FnExactRepairDisc': WHATEVER THE INPUT: true; the input reads as it did. -/
def fnExactRepairDiscSpec : ChangeSpec := { name := "fnExactRepairDisc", fn := fun _ => fun
  | [d] => { results := [.lit (.bool true)], args := [d] }
  | _ => none }
def fnExactRepairDiscRow : OpenClaim := { program := "ytfcdienphillnaagreat", sum := "edfdc22360065ff571c5af42a5d73f90b8c8255bee45855aa7ed63f95775e552", func := "loop.example/g00899/laws.FnExactRepairDisc", spec := "fnExactRepairDisc", inPlace := ["internal/abi.NoEscape", "internal/bytealg.MakeNoZero"], unfollowed := true, recurses := true, apart := false }
def FnExactRepairDiscSaid : Prop := fnExactRepairDiscRow.holds Tryz.pinned (OpenSpec.ofChange fnExactRepairDiscSpec)

/-- ITS FALSE NEIGHBOUR: 'it returns false'. Refute it at one input. -/
def fnExactRepairDiscWrong : ChangeSpec := { name := "fnExactRepairDisc", fn := fun _ => fun
  | [d] => { results := [.lit (.bool false)], args := [d] }
  | _ => none }
def FnExactRepairDiscWrongFalsely : Prop := fnExactRepairDiscRow.holds Tryz.pinned (OpenSpec.ofChange fnExactRepairDiscWrong)

/-- 'laws.FnRepaired': WHATEVER THE INPUT: true; the input reads as it did. -/
def fnRepairedSpec : ChangeSpec := { name := "fnRepaired", fn := fun _ => fun
  | [d] => { results := [.lit (.bool true)], args := [d] }
  | _ => none }
def fnRepairedRow : OpenClaim := { program := "ytfcdienphillnaagreat", sum := "edfdc22360065ff571c5af42a5d73f90b8c8255bee45855aa7ed63f95775e552", func := "loop.example/g00899/laws.FnRepaired", spec := "fnRepaired", inPlace := ["internal/abi.NoEscape", "internal/bytealg.MakeNoZero"], unfollowed := true, recurses := true, apart := false }
def FnRepairedSaid : Prop := fnRepairedRow.holds Tryz.pinned (OpenSpec.ofChange fnRepairedSpec)

/-- ITS FALSE NEIGHBOUR: 'it returns false'. Refute it at one input. -/
def fnRepairedWrong : ChangeSpec := { name := "fnRepaired", fn := fun _ => fun
  | [d] => { results := [.lit (.bool false)], args := [d] }
  | _ => none }
def FnRepairedWrongFalsely : Prop := fnRepairedRow.holds Tryz.pinned (OpenSpec.ofChange fnRepairedWrong)

/- THE SECOND FORM. 'bulk': how many values and letters a reading holds, each counted each time it is reached (what is shared counts as often as it is met; a slice's spare places count too). A statement '..UptoSaid' is the law's where the arguments, and the package variables that the reading takes, are together of bulk at most 1048576: NARROWER than '..Said'. Prove '..Said' where nothing that the law and all that it calls make is longer than what came in: it says more and counts as full. Else prove '..UptoSaid'. A law counts once. -/
mutual
def uptoBulk {H : Type} : DataW H → Nat
  | .lit (.string bytes) => bytes.length + 1
  | .lit _ => 1
  | .nil => 1
  | .ptr d => uptoBulk d + 1
  | .slice elems spare => uptoBulkAll elems + uptoBulkAll spare + 1
  | .agg parts => uptoBulkAll parts + 1
  | .iface _ d => uptoBulk d + 1
  | .map entries => uptoBulkEntries entries + 1
  | .held _ => 1
def uptoBulkAll {H : Type} : List (DataW H) → Nat
  | [] => 0
  | d :: r => uptoBulk d + uptoBulkAll r
def uptoBulkEntries {H : Type} : List (Lit × DataW H) → Nat
  | [] => 0
  | x :: r => uptoBulkEntry x + uptoBulkEntries r
def uptoBulkEntry {H : Type} : Lit × DataW H → Nat
  | (.string bytes, d) => bytes.length + uptoBulk d + 1
  | (_, d) => uptoBulk d + 1
 end
def uptoSmall : (H : Type) → List (DataW H) → Bool := fun _ ds => decide (uptoBulkAll ds ≤ 1048576)
def OpenSpec.upto (s : _root_.Go.ChangeSpec) : _root_.Go.OpenSpec := { _root_.Go.OpenSpec.ofChange s with cond := some uptoSmall }

/-- 'laws.FnExactCheckSource', WHERE WHAT IT READS IS OF BULK AT MOST 1048576: true; the input reads as it did. -/
def fnExactCheckSourceUptoRow : OpenClaim := { program := "ytfcdienphillnaagreat", sum := "edfdc22360065ff571c5af42a5d73f90b8c8255bee45855aa7ed63f95775e552", func := "loop.example/g00899/laws.FnExactCheckSource", spec := "fnExactCheckSource", inPlace := ["internal/abi.NoEscape", "internal/bytealg.MakeNoZero"], unfollowed := true, recurses := true, apart := false, narrowed := true }
def FnExactCheckSourceUptoSaid : Prop := fnExactCheckSourceUptoRow.holds Tryz.pinned (OpenSpec.upto fnExactCheckSourceSpec)

/-- 'laws.FnExactCheckCertificate', WHERE WHAT IT READS IS OF BULK AT MOST 1048576: true; the input reads as it did. -/
def fnExactCheckCertificateUptoRow : OpenClaim := { program := "ytfcdienphillnaagreat", sum := "edfdc22360065ff571c5af42a5d73f90b8c8255bee45855aa7ed63f95775e552", func := "loop.example/g00899/laws.FnExactCheckCertificate", spec := "fnExactCheckCertificate", inPlace := ["internal/abi.NoEscape", "internal/bytealg.MakeNoZero"], unfollowed := true, recurses := true, apart := false, narrowed := true }
def FnExactCheckCertificateUptoSaid : Prop := fnExactCheckCertificateUptoRow.holds Tryz.pinned (OpenSpec.upto fnExactCheckCertificateSpec)

/-- 'laws.FnExactLostSectors', WHERE WHAT IT READS IS OF BULK AT MOST 1048576: true; the input reads as it did. -/
def fnExactLostSectorsUptoRow : OpenClaim := { program := "ytfcdienphillnaagreat", sum := "edfdc22360065ff571c5af42a5d73f90b8c8255bee45855aa7ed63f95775e552", func := "loop.example/g00899/laws.FnExactLostSectors", spec := "fnExactLostSectors", inPlace := ["internal/abi.NoEscape", "internal/bytealg.MakeNoZero"], unfollowed := true, recurses := true, apart := false, narrowed := true }
def FnExactLostSectorsUptoSaid : Prop := fnExactLostSectorsUptoRow.holds Tryz.pinned (OpenSpec.upto fnExactLostSectorsSpec)

/-- 'laws.FnExactRepairDisc', WHERE WHAT IT READS IS OF BULK AT MOST 1048576: true; the input reads as it did. -/
def fnExactRepairDiscUptoRow : OpenClaim := { program := "ytfcdienphillnaagreat", sum := "edfdc22360065ff571c5af42a5d73f90b8c8255bee45855aa7ed63f95775e552", func := "loop.example/g00899/laws.FnExactRepairDisc", spec := "fnExactRepairDisc", inPlace := ["internal/abi.NoEscape", "internal/bytealg.MakeNoZero"], unfollowed := true, recurses := true, apart := false, narrowed := true }
def FnExactRepairDiscUptoSaid : Prop := fnExactRepairDiscUptoRow.holds Tryz.pinned (OpenSpec.upto fnExactRepairDiscSpec)

/-- 'laws.FnRepaired', WHERE WHAT IT READS IS OF BULK AT MOST 1048576: true; the input reads as it did. -/
def fnRepairedUptoRow : OpenClaim := { program := "ytfcdienphillnaagreat", sum := "edfdc22360065ff571c5af42a5d73f90b8c8255bee45855aa7ed63f95775e552", func := "loop.example/g00899/laws.FnRepaired", spec := "fnRepaired", inPlace := ["internal/abi.NoEscape", "internal/bytealg.MakeNoZero"], unfollowed := true, recurses := true, apart := false, narrowed := true }
def FnRepairedUptoSaid : Prop := fnRepairedUptoRow.holds Tryz.pinned (OpenSpec.upto fnRepairedSpec)

end Rows
end Go.Proofs.YtfcdienphillnaaGreat
