/-
  No cell of these rows narrows 'for every input' (looked for: loops, veiled, ifaces, maps, wideKeys, modest, calm, conditions, laid).
  DERIVED. THE GIVEN ROWS OF THIS SEAT. 9 by the template 'for every input the law returns true; each argument reads behind the call as it read before'; 0 by the template 'total and deterministic' (their statements: YtkdadaocbfbndaaTotals.lean).
  GIVEN WITH THE SEED: the statements are not yours to turn. If you find one false, say at which input.
  Laid BY PROGRAM, IN A SANDBOX (cutbox-rows.mjs): the forced cells as the released guide's own fill.sh prints them over the translation adf2d59b3b55b17f… (all of the seat's roots in one cut). By AI agents, Wed Nov 11 2026. No macro, syntax, notation, axiom, sorry.
-/
import Derived.Test.YtkdadaocbfbndaaChecked
import GoSem.Claim
import GoSem.ClaimJoined
import GoSem.ClaimMapViews
import Derived.JoinedTies
import Derived.KernelRfl
namespace Go.Proofs.Ytkdadaocbfbndaa
/- THE CELL 'sum', in the pinned program and in every row, IS THE sha256 OF THE DUMP (.gsa) THAT YtkdadaocbfbndaaProg.lean LOADS. Nothing in Lean hashes anything: it is a label: what it is worth is what the hold of that sum in a sandbox is worth. -/
noncomputable def Try.pinned : Pinned := { name := "ytkdadaocbfbndaa", sum := "adf2d59b3b55b17f986f07507cf7e2832d854bdcf67393879d9ff146bf876e2c", checked := Try.checked }
namespace Rows
def none {H : Type} : Left H := { results := [], args := [] }

/-- 'laws.FnExactUpdateParity': WHATEVER THE INPUT: true; the input reads as it did. -/
def fnExactUpdateParitySpec : ChangeSpec := { name := "fnExactUpdateParity", fn := fun _ => fun
  | [d1, d2, d3, d4, d5] => { results := [.lit (.bool true)], args := [d1, d2, d3, d4, d5] }
  | _ => none }
def fnExactUpdateParityRow : OpenClaim := { program := "ytkdadaocbfbndaa", sum := "adf2d59b3b55b17f986f07507cf7e2832d854bdcf67393879d9ff146bf876e2c", func := "loop.example/g00899/laws.FnExactUpdateParity", spec := "fnExactUpdateParity", unfollowed := true, recurses := true, apart := false }
def FnExactUpdateParitySaid : Prop := fnExactUpdateParityRow.holds Try.pinned (OpenSpec.ofChange fnExactUpdateParitySpec)

/-- ITS FALSE NEIGHBOUR: 'it returns false'. Refute it at one input. -/
def fnExactUpdateParityWrong : ChangeSpec := { name := "fnExactUpdateParity", fn := fun _ => fun
  | [d1, d2, d3, d4, d5] => { results := [.lit (.bool false)], args := [d1, d2, d3, d4, d5] }
  | _ => none }
def FnExactUpdateParityWrongFalsely : Prop := fnExactUpdateParityRow.holds Try.pinned (OpenSpec.ofChange fnExactUpdateParityWrong)

/-- 'laws.FnExactMakeParity': WHATEVER THE INPUT: true; the input reads as it did. -/
def fnExactMakeParitySpec : ChangeSpec := { name := "fnExactMakeParity", fn := fun _ => fun
  | [d] => { results := [.lit (.bool true)], args := [d] }
  | _ => none }
def fnExactMakeParityRow : OpenClaim := { program := "ytkdadaocbfbndaa", sum := "adf2d59b3b55b17f986f07507cf7e2832d854bdcf67393879d9ff146bf876e2c", func := "loop.example/g00899/laws.FnExactMakeParity", spec := "fnExactMakeParity", inPlace := ["internal/abi.NoEscape", "internal/bytealg.MakeNoZero"], unfollowed := true, recurses := true, apart := false }
def FnExactMakeParitySaid : Prop := fnExactMakeParityRow.holds Try.pinned (OpenSpec.ofChange fnExactMakeParitySpec)

/-- ITS FALSE NEIGHBOUR: 'it returns false'. Refute it at one input. -/
def fnExactMakeParityWrong : ChangeSpec := { name := "fnExactMakeParity", fn := fun _ => fun
  | [d] => { results := [.lit (.bool false)], args := [d] }
  | _ => none }
def FnExactMakeParityWrongFalsely : Prop := fnExactMakeParityRow.holds Try.pinned (OpenSpec.ofChange fnExactMakeParityWrong)

/-- 'laws.FnExactCheckParity': WHATEVER THE INPUT: true; the input reads as it did. -/
def fnExactCheckParitySpec : ChangeSpec := { name := "fnExactCheckParity", fn := fun _ => fun
  | [d1, d2, d3] => { results := [.lit (.bool true)], args := [d1, d2, d3] }
  | _ => none }
def fnExactCheckParityRow : OpenClaim := { program := "ytkdadaocbfbndaa", sum := "adf2d59b3b55b17f986f07507cf7e2832d854bdcf67393879d9ff146bf876e2c", func := "loop.example/g00899/laws.FnExactCheckParity", spec := "fnExactCheckParity", inPlace := ["internal/abi.NoEscape", "internal/bytealg.MakeNoZero"], unfollowed := true, recurses := true, apart := false }
def FnExactCheckParitySaid : Prop := fnExactCheckParityRow.holds Try.pinned (OpenSpec.ofChange fnExactCheckParitySpec)

/-- ITS FALSE NEIGHBOUR: 'it returns false'. Refute it at one input. -/
def fnExactCheckParityWrong : ChangeSpec := { name := "fnExactCheckParity", fn := fun _ => fun
  | [d1, d2, d3] => { results := [.lit (.bool false)], args := [d1, d2, d3] }
  | _ => none }
def FnExactCheckParityWrongFalsely : Prop := fnExactCheckParityRow.holds Try.pinned (OpenSpec.ofChange fnExactCheckParityWrong)

/-- 'laws.FnExactFindDamaged': WHATEVER THE INPUT: true; the input reads as it did. -/
def fnExactFindDamagedSpec : ChangeSpec := { name := "fnExactFindDamaged", fn := fun _ => fun
  | [d1, d2, d3] => { results := [.lit (.bool true)], args := [d1, d2, d3] }
  | _ => none }
def fnExactFindDamagedRow : OpenClaim := { program := "ytkdadaocbfbndaa", sum := "adf2d59b3b55b17f986f07507cf7e2832d854bdcf67393879d9ff146bf876e2c", func := "loop.example/g00899/laws.FnExactFindDamaged", spec := "fnExactFindDamaged", inPlace := ["internal/abi.NoEscape", "internal/bytealg.MakeNoZero"], unfollowed := true, recurses := true, apart := false }
def FnExactFindDamagedSaid : Prop := fnExactFindDamagedRow.holds Try.pinned (OpenSpec.ofChange fnExactFindDamagedSpec)

/-- ITS FALSE NEIGHBOUR: 'it returns false'. Refute it at one input. -/
def fnExactFindDamagedWrong : ChangeSpec := { name := "fnExactFindDamaged", fn := fun _ => fun
  | [d1, d2, d3] => { results := [.lit (.bool false)], args := [d1, d2, d3] }
  | _ => none }
def FnExactFindDamagedWrongFalsely : Prop := fnExactFindDamagedRow.holds Try.pinned (OpenSpec.ofChange fnExactFindDamagedWrong)

/-- 'laws.FnExactRestoreOne': WHATEVER THE INPUT: true; the input reads as it did. -/
def fnExactRestoreOneSpec : ChangeSpec := { name := "fnExactRestoreOne", fn := fun _ => fun
  | [d1, d2, d3] => { results := [.lit (.bool true)], args := [d1, d2, d3] }
  | _ => none }
def fnExactRestoreOneRow : OpenClaim := { program := "ytkdadaocbfbndaa", sum := "adf2d59b3b55b17f986f07507cf7e2832d854bdcf67393879d9ff146bf876e2c", func := "loop.example/g00899/laws.FnExactRestoreOne", spec := "fnExactRestoreOne", inPlace := ["internal/abi.NoEscape", "internal/bytealg.MakeNoZero"], unfollowed := true, recurses := true, apart := false }
def FnExactRestoreOneSaid : Prop := fnExactRestoreOneRow.holds Try.pinned (OpenSpec.ofChange fnExactRestoreOneSpec)

/-- ITS FALSE NEIGHBOUR: 'it returns false'. Refute it at one input. -/
def fnExactRestoreOneWrong : ChangeSpec := { name := "fnExactRestoreOne", fn := fun _ => fun
  | [d1, d2, d3] => { results := [.lit (.bool false)], args := [d1, d2, d3] }
  | _ => none }
def FnExactRestoreOneWrongFalsely : Prop := fnExactRestoreOneRow.holds Try.pinned (OpenSpec.ofChange fnExactRestoreOneWrong)

/-- 'laws.FnExactRestoreTwo': WHATEVER THE INPUT: true; the input reads as it did. -/
def fnExactRestoreTwoSpec : ChangeSpec := { name := "fnExactRestoreTwo", fn := fun _ => fun
  | [d1, d2, d3, d4] => { results := [.lit (.bool true)], args := [d1, d2, d3, d4] }
  | _ => none }
def fnExactRestoreTwoRow : OpenClaim := { program := "ytkdadaocbfbndaa", sum := "adf2d59b3b55b17f986f07507cf7e2832d854bdcf67393879d9ff146bf876e2c", func := "loop.example/g00899/laws.FnExactRestoreTwo", spec := "fnExactRestoreTwo", inPlace := ["internal/abi.NoEscape", "internal/bytealg.MakeNoZero"], unfollowed := true, recurses := true, apart := false }
def FnExactRestoreTwoSaid : Prop := fnExactRestoreTwoRow.holds Try.pinned (OpenSpec.ofChange fnExactRestoreTwoSpec)

/-- ITS FALSE NEIGHBOUR: 'it returns false'. Refute it at one input. -/
def fnExactRestoreTwoWrong : ChangeSpec := { name := "fnExactRestoreTwo", fn := fun _ => fun
  | [d1, d2, d3, d4] => { results := [.lit (.bool false)], args := [d1, d2, d3, d4] }
  | _ => none }
def FnExactRestoreTwoWrongFalsely : Prop := fnExactRestoreTwoRow.holds Try.pinned (OpenSpec.ofChange fnExactRestoreTwoWrong)

/-- 'laws.FnParity': WHATEVER THE INPUT: true; the input reads as it did. -/
def fnParitySpec : ChangeSpec := { name := "fnParity", fn := fun _ => fun
  | [d1, d2] => { results := [.lit (.bool true)], args := [d1, d2] }
  | _ => none }
def fnParityRow : OpenClaim := { program := "ytkdadaocbfbndaa", sum := "adf2d59b3b55b17f986f07507cf7e2832d854bdcf67393879d9ff146bf876e2c", func := "loop.example/g00899/laws.FnParity", spec := "fnParity", inPlace := ["internal/abi.NoEscape", "internal/bytealg.MakeNoZero"], unfollowed := true, recurses := true, apart := false }
def FnParitySaid : Prop := fnParityRow.holds Try.pinned (OpenSpec.ofChange fnParitySpec)

/-- ITS FALSE NEIGHBOUR: 'it returns false'. Refute it at one input. -/
def fnParityWrong : ChangeSpec := { name := "fnParity", fn := fun _ => fun
  | [d1, d2] => { results := [.lit (.bool false)], args := [d1, d2] }
  | _ => none }
def FnParityWrongFalsely : Prop := fnParityRow.holds Try.pinned (OpenSpec.ofChange fnParityWrong)

/-- 'laws.FnFindDamaged': WHATEVER THE INPUT: true; the input reads as it did. -/
def fnFindDamagedSpec : ChangeSpec := { name := "fnFindDamaged", fn := fun _ => fun
  | [d1, d2] => { results := [.lit (.bool true)], args := [d1, d2] }
  | _ => none }
def fnFindDamagedRow : OpenClaim := { program := "ytkdadaocbfbndaa", sum := "adf2d59b3b55b17f986f07507cf7e2832d854bdcf67393879d9ff146bf876e2c", func := "loop.example/g00899/laws.FnFindDamaged", spec := "fnFindDamaged", inPlace := ["internal/abi.NoEscape", "internal/bytealg.MakeNoZero"], unfollowed := true, recurses := true, apart := false }
def FnFindDamagedSaid : Prop := fnFindDamagedRow.holds Try.pinned (OpenSpec.ofChange fnFindDamagedSpec)

/-- ITS FALSE NEIGHBOUR: 'it returns false'. Refute it at one input. -/
def fnFindDamagedWrong : ChangeSpec := { name := "fnFindDamaged", fn := fun _ => fun
  | [d1, d2] => { results := [.lit (.bool false)], args := [d1, d2] }
  | _ => none }
def FnFindDamagedWrongFalsely : Prop := fnFindDamagedRow.holds Try.pinned (OpenSpec.ofChange fnFindDamagedWrong)

/-- 'laws.FnTwoLost': WHATEVER THE INPUT: true; the input reads as it did. -/
def fnTwoLostSpec : ChangeSpec := { name := "fnTwoLost", fn := fun _ => fun
  | [d1, d2] => { results := [.lit (.bool true)], args := [d1, d2] }
  | _ => none }
def fnTwoLostRow : OpenClaim := { program := "ytkdadaocbfbndaa", sum := "adf2d59b3b55b17f986f07507cf7e2832d854bdcf67393879d9ff146bf876e2c", func := "loop.example/g00899/laws.FnTwoLost", spec := "fnTwoLost", inPlace := ["internal/abi.NoEscape", "internal/bytealg.MakeNoZero"], unfollowed := true, recurses := true, apart := false }
def FnTwoLostSaid : Prop := fnTwoLostRow.holds Try.pinned (OpenSpec.ofChange fnTwoLostSpec)

/-- ITS FALSE NEIGHBOUR: 'it returns false'. Refute it at one input. -/
def fnTwoLostWrong : ChangeSpec := { name := "fnTwoLost", fn := fun _ => fun
  | [d1, d2] => { results := [.lit (.bool false)], args := [d1, d2] }
  | _ => none }
def FnTwoLostWrongFalsely : Prop := fnTwoLostRow.holds Try.pinned (OpenSpec.ofChange fnTwoLostWrong)

/- THE SECOND FORM. 'bulk': how many values and letters a reading holds, each counted each time it is reached (what is shared counts as often as it is met; a slice's spare places count too). A statement '..UptoSaid' is the law's where the arguments, and the package variables that the reading takes, are together of bulk at most 1048576: NARROWER than '..Said'. Prove '..Said' where nothing that the law and all that it calls make is longer than what came in: it says more and counts as full. Else prove '..UptoSaid'. A law counts once. -/
mutual
def uptoBulk {H : Type} : DataW H → Nat
  | .lit (.string bytes) => bytes.length + 1
  | .lit _ => 1
  | .nil => 1
  | .ptr d => uptoBulk d + 1
  | .slice elems spare => uptoBulkAll elems + uptoBulkAll spare + 1
  | .agg parts => uptoBulkAll parts + 1
  | .iface _ d => uptoBulk d + 1
  | .map entries => uptoBulkEntries entries + 1
  | .held _ => 1
def uptoBulkAll {H : Type} : List (DataW H) → Nat
  | [] => 0
  | d :: r => uptoBulk d + uptoBulkAll r
def uptoBulkEntries {H : Type} : List (Lit × DataW H) → Nat
  | [] => 0
  | x :: r => uptoBulkEntry x + uptoBulkEntries r
def uptoBulkEntry {H : Type} : Lit × DataW H → Nat
  | (.string bytes, d) => bytes.length + uptoBulk d + 1
  | (_, d) => uptoBulk d + 1
 end
def uptoSmall : (H : Type) → List (DataW H) → Bool := fun _ ds => decide (uptoBulkAll ds ≤ 1048576)
def OpenSpec.upto (s : _root_.Go.ChangeSpec) : _root_.Go.OpenSpec := { _root_.Go.OpenSpec.ofChange s with cond := some uptoSmall }

/-- 'laws.FnExactUpdateParity', WHERE WHAT IT READS IS OF BULK AT MOST 1048576: true; the input reads as it did. -/
def fnExactUpdateParityUptoRow : OpenClaim := { program := "ytkdadaocbfbndaa", sum := "adf2d59b3b55b17f986f07507cf7e2832d854bdcf67393879d9ff146bf876e2c", func := "loop.example/g00899/laws.FnExactUpdateParity", spec := "fnExactUpdateParity", unfollowed := true, recurses := true, apart := false, narrowed := true }
def FnExactUpdateParityUptoSaid : Prop := fnExactUpdateParityUptoRow.holds Try.pinned (OpenSpec.upto fnExactUpdateParitySpec)

/-- 'laws.FnExactMakeParity', WHERE WHAT IT READS IS OF BULK AT MOST 1048576: true; the input reads as it did. -/
def fnExactMakeParityUptoRow : OpenClaim := { program := "ytkdadaocbfbndaa", sum := "adf2d59b3b55b17f986f07507cf7e2832d854bdcf67393879d9ff146bf876e2c", func := "loop.example/g00899/laws.FnExactMakeParity", spec := "fnExactMakeParity", inPlace := ["internal/abi.NoEscape", "internal/bytealg.MakeNoZero"], unfollowed := true, recurses := true, apart := false, narrowed := true }
def FnExactMakeParityUptoSaid : Prop := fnExactMakeParityUptoRow.holds Try.pinned (OpenSpec.upto fnExactMakeParitySpec)

/-- 'laws.FnExactCheckParity', WHERE WHAT IT READS IS OF BULK AT MOST 1048576: true; the input reads as it did. -/
def fnExactCheckParityUptoRow : OpenClaim := { program := "ytkdadaocbfbndaa", sum := "adf2d59b3b55b17f986f07507cf7e2832d854bdcf67393879d9ff146bf876e2c", func := "loop.example/g00899/laws.FnExactCheckParity", spec := "fnExactCheckParity", inPlace := ["internal/abi.NoEscape", "internal/bytealg.MakeNoZero"], unfollowed := true, recurses := true, apart := false, narrowed := true }
def FnExactCheckParityUptoSaid : Prop := fnExactCheckParityUptoRow.holds Try.pinned (OpenSpec.upto fnExactCheckParitySpec)

/-- 'laws.FnExactFindDamaged', WHERE WHAT IT READS IS OF BULK AT MOST 1048576: true; the input reads as it did. -/
def fnExactFindDamagedUptoRow : OpenClaim := { program := "ytkdadaocbfbndaa", sum := "adf2d59b3b55b17f986f07507cf7e2832d854bdcf67393879d9ff146bf876e2c", func := "loop.example/g00899/laws.FnExactFindDamaged", spec := "fnExactFindDamaged", inPlace := ["internal/abi.NoEscape", "internal/bytealg.MakeNoZero"], unfollowed := true, recurses := true, apart := false, narrowed := true }
def FnExactFindDamagedUptoSaid : Prop := fnExactFindDamagedUptoRow.holds Try.pinned (OpenSpec.upto fnExactFindDamagedSpec)

/-- 'laws.FnExactRestoreOne', WHERE WHAT IT READS IS OF BULK AT MOST 1048576: true; the input reads as it did. -/
def fnExactRestoreOneUptoRow : OpenClaim := { program := "ytkdadaocbfbndaa", sum := "adf2d59b3b55b17f986f07507cf7e2832d854bdcf67393879d9ff146bf876e2c", func := "loop.example/g00899/laws.FnExactRestoreOne", spec := "fnExactRestoreOne", inPlace := ["internal/abi.NoEscape", "internal/bytealg.MakeNoZero"], unfollowed := true, recurses := true, apart := false, narrowed := true }
def FnExactRestoreOneUptoSaid : Prop := fnExactRestoreOneUptoRow.holds Try.pinned (OpenSpec.upto fnExactRestoreOneSpec)

/-- 'laws.FnExactRestoreTwo', WHERE WHAT IT READS IS OF BULK AT MOST 1048576: true; the input reads as it did. -/
def fnExactRestoreTwoUptoRow : OpenClaim := { program := "ytkdadaocbfbndaa", sum := "adf2d59b3b55b17f986f07507cf7e2832d854bdcf67393879d9ff146bf876e2c", func := "loop.example/g00899/laws.FnExactRestoreTwo", spec := "fnExactRestoreTwo", inPlace := ["internal/abi.NoEscape", "internal/bytealg.MakeNoZero"], unfollowed := true, recurses := true, apart := false, narrowed := true }
def FnExactRestoreTwoUptoSaid : Prop := fnExactRestoreTwoUptoRow.holds Try.pinned (OpenSpec.upto fnExactRestoreTwoSpec)

/-- 'laws.FnParity', WHERE WHAT IT READS IS OF BULK AT MOST 1048576: true; the input reads as it did. -/
def fnParityUptoRow : OpenClaim := { program := "ytkdadaocbfbndaa", sum := "adf2d59b3b55b17f986f07507cf7e2832d854bdcf67393879d9ff146bf876e2c", func := "loop.example/g00899/laws.FnParity", spec := "fnParity", inPlace := ["internal/abi.NoEscape", "internal/bytealg.MakeNoZero"], unfollowed := true, recurses := true, apart := false, narrowed := true }
def FnParityUptoSaid : Prop := fnParityUptoRow.holds Try.pinned (OpenSpec.upto fnParitySpec)

/-- 'laws.FnFindDamaged', WHERE WHAT IT READS IS OF BULK AT MOST 1048576: true; the input reads as it did. -/
def fnFindDamagedUptoRow : OpenClaim := { program := "ytkdadaocbfbndaa", sum := "adf2d59b3b55b17f986f07507cf7e2832d854bdcf67393879d9ff146bf876e2c", func := "loop.example/g00899/laws.FnFindDamaged", spec := "fnFindDamaged", inPlace := ["internal/abi.NoEscape", "internal/bytealg.MakeNoZero"], unfollowed := true, recurses := true, apart := false, narrowed := true }
def FnFindDamagedUptoSaid : Prop := fnFindDamagedUptoRow.holds Try.pinned (OpenSpec.upto fnFindDamagedSpec)

/-- 'laws.FnTwoLost', WHERE WHAT IT READS IS OF BULK AT MOST 1048576: true; the input reads as it did. -/
def fnTwoLostUptoRow : OpenClaim := { program := "ytkdadaocbfbndaa", sum := "adf2d59b3b55b17f986f07507cf7e2832d854bdcf67393879d9ff146bf876e2c", func := "loop.example/g00899/laws.FnTwoLost", spec := "fnTwoLost", inPlace := ["internal/abi.NoEscape", "internal/bytealg.MakeNoZero"], unfollowed := true, recurses := true, apart := false, narrowed := true }
def FnTwoLostUptoSaid : Prop := fnTwoLostUptoRow.holds Try.pinned (OpenSpec.upto fnTwoLostSpec)

end Rows
end Go.Proofs.Ytkdadaocbfbndaa
