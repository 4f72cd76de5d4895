/-
  No cell of these rows narrows 'for every input' (looked for: loops, veiled, ifaces, maps, wideKeys, modest, calm, conditions, laid).
  DERIVED. THE GIVEN ROWS OF THIS SEAT. 13 by the template 'for every input the law returns true; each argument reads behind the call as it read before'; 0 by the template 'total and deterministic' (their statements: YtignjjkldmninaaTotals.lean).
  GIVEN WITH THE SEED: the statements are not yours to turn. If you find one false, say at which input.
  Laid BY PROGRAM, IN A SANDBOX (cutbox-rows.mjs): the forced cells as the released guide's own fill.sh prints them over the translation ce39b226085fb799… (all of the seat's roots in one cut). By AI agents, Wed Nov 11 2026. No macro, syntax, notation, axiom, sorry.
-/
import Derived.Test.YtignjjkldmninaaChecked
import GoSem.Claim
import GoSem.ClaimJoined
import GoSem.ClaimMapViews
import Derived.JoinedTies
import Derived.KernelRfl
namespace Go.Proofs.Ytignjjkldmninaa
/- THE CELL 'sum', in the pinned program and in every row, IS THE sha256 OF THE DUMP (.gsa) THAT YtignjjkldmninaaProg.lean LOADS. Nothing in Lean hashes anything: it is a label: what it is worth is what the hold of that sum in a sandbox is worth. -/
noncomputable def Try.pinned : Pinned := { name := "ytignjjkldmninaa", sum := "ce39b226085fb799acafd89e3a4135a6a8356f29f3297d1f04a1b9f6844f91f6", checked := Try.checked }
namespace Rows
def none {H : Type} : Left H := { results := [], args := [] }

/-- 'laws.FnExactValidDumps': WHATEVER THE INPUT: true; the input reads as it did. -/
def fnExactValidDumpsSpec : ChangeSpec := { name := "fnExactValidDumps", fn := fun _ => fun
  | [d] => { results := [.lit (.bool true)], args := [d] }
  | _ => none }
def fnExactValidDumpsRow : OpenClaim := { program := "ytignjjkldmninaa", sum := "ce39b226085fb799acafd89e3a4135a6a8356f29f3297d1f04a1b9f6844f91f6", func := "loop.example/g00899/laws.FnExactValidDumps", spec := "fnExactValidDumps", inPlace := ["internal/abi.NoEscape", "internal/bytealg.MakeNoZero"], apart := false }
def FnExactValidDumpsSaid : Prop := fnExactValidDumpsRow.holds Try.pinned (OpenSpec.ofChange fnExactValidDumpsSpec)

/-- ITS FALSE NEIGHBOUR: 'it returns false'. Refute it at one input. -/
def fnExactValidDumpsWrong : ChangeSpec := { name := "fnExactValidDumps", fn := fun _ => fun
  | [d] => { results := [.lit (.bool false)], args := [d] }
  | _ => none }
def FnExactValidDumpsWrongFalsely : Prop := fnExactValidDumpsRow.holds Try.pinned (OpenSpec.ofChange fnExactValidDumpsWrong)

/-- 'laws.FnExactSameMerge': WHATEVER THE INPUT: true; the input reads as it did. -/
def fnExactSameMergeSpec : ChangeSpec := { name := "fnExactSameMerge", fn := fun _ => fun
  | [d1, d2] => { results := [.lit (.bool true)], args := [d1, d2] }
  | _ => none }
def fnExactSameMergeRow : OpenClaim := { program := "ytignjjkldmninaa", sum := "ce39b226085fb799acafd89e3a4135a6a8356f29f3297d1f04a1b9f6844f91f6", func := "loop.example/g00899/laws.FnExactSameMerge", spec := "fnExactSameMerge", apart := false }
def FnExactSameMergeSaid : Prop := fnExactSameMergeRow.holds Try.pinned (OpenSpec.ofChange fnExactSameMergeSpec)

/-- ITS FALSE NEIGHBOUR: 'it returns false'. Refute it at one input. -/
def fnExactSameMergeWrong : ChangeSpec := { name := "fnExactSameMerge", fn := fun _ => fun
  | [d1, d2] => { results := [.lit (.bool false)], args := [d1, d2] }
  | _ => none }
def FnExactSameMergeWrongFalsely : Prop := fnExactSameMergeRow.holds Try.pinned (OpenSpec.ofChange fnExactSameMergeWrong)

/-- 'laws.FnExactBestDump': WHATEVER THE INPUT: true; the input reads as it did. -/
def fnExactBestDumpSpec : ChangeSpec := { name := "fnExactBestDump", fn := fun _ => fun
  | [d] => { results := [.lit (.bool true)], args := [d] }
  | _ => none }
def fnExactBestDumpRow : OpenClaim := { program := "ytignjjkldmninaa", sum := "ce39b226085fb799acafd89e3a4135a6a8356f29f3297d1f04a1b9f6844f91f6", func := "loop.example/g00899/laws.FnExactBestDump", spec := "fnExactBestDump", inPlace := ["internal/abi.NoEscape", "internal/bytealg.MakeNoZero"], apart := false }
def FnExactBestDumpSaid : Prop := fnExactBestDumpRow.holds Try.pinned (OpenSpec.ofChange fnExactBestDumpSpec)

/-- ITS FALSE NEIGHBOUR: 'it returns false'. Refute it at one input. -/
def fnExactBestDumpWrong : ChangeSpec := { name := "fnExactBestDump", fn := fun _ => fun
  | [d] => { results := [.lit (.bool false)], args := [d] }
  | _ => none }
def FnExactBestDumpWrongFalsely : Prop := fnExactBestDumpRow.holds Try.pinned (OpenSpec.ofChange fnExactBestDumpWrong)

/-- 'laws.FnExactMergeSector': WHATEVER THE INPUT: true; the input reads as it did. -/
def fnExactMergeSectorSpec : ChangeSpec := { name := "fnExactMergeSector", fn := fun _ => fun
  | [d] => { results := [.lit (.bool true)], args := [d] }
  | _ => none }
def fnExactMergeSectorRow : OpenClaim := { program := "ytignjjkldmninaa", sum := "ce39b226085fb799acafd89e3a4135a6a8356f29f3297d1f04a1b9f6844f91f6", func := "loop.example/g00899/laws.FnExactMergeSector", spec := "fnExactMergeSector", inPlace := ["internal/abi.NoEscape", "internal/bytealg.MakeNoZero"], apart := false }
def FnExactMergeSectorSaid : Prop := fnExactMergeSectorRow.holds Try.pinned (OpenSpec.ofChange fnExactMergeSectorSpec)

/-- ITS FALSE NEIGHBOUR: 'it returns false'. Refute it at one input. -/
def fnExactMergeSectorWrong : ChangeSpec := { name := "fnExactMergeSector", fn := fun _ => fun
  | [d] => { results := [.lit (.bool false)], args := [d] }
  | _ => none }
def FnExactMergeSectorWrongFalsely : Prop := fnExactMergeSectorRow.holds Try.pinned (OpenSpec.ofChange fnExactMergeSectorWrong)

/-- 'laws.FnExactFillFrom': WHATEVER THE INPUT: true; the input reads as it did. -/
def fnExactFillFromSpec : ChangeSpec := { name := "fnExactFillFrom", fn := fun _ => fun
  | [d1, d2] => { results := [.lit (.bool true)], args := [d1, d2] }
  | _ => none }
def fnExactFillFromRow : OpenClaim := { program := "ytignjjkldmninaa", sum := "ce39b226085fb799acafd89e3a4135a6a8356f29f3297d1f04a1b9f6844f91f6", func := "loop.example/g00899/laws.FnExactFillFrom", spec := "fnExactFillFrom", inPlace := ["internal/abi.NoEscape", "internal/bytealg.MakeNoZero"], apart := false }
def FnExactFillFromSaid : Prop := fnExactFillFromRow.holds Try.pinned (OpenSpec.ofChange fnExactFillFromSpec)

/-- ITS FALSE NEIGHBOUR: 'it returns false'. Refute it at one input. -/
def fnExactFillFromWrong : ChangeSpec := { name := "fnExactFillFrom", fn := fun _ => fun
  | [d1, d2] => { results := [.lit (.bool false)], args := [d1, d2] }
  | _ => none }
def FnExactFillFromWrongFalsely : Prop := fnExactFillFromRow.holds Try.pinned (OpenSpec.ofChange fnExactFillFromWrong)

/-- 'laws.FnExactLackingOf': WHATEVER THE INPUT: true; the input reads as it did. -/
def fnExactLackingOfSpec : ChangeSpec := { name := "fnExactLackingOf", fn := fun _ => fun
  | [d] => { results := [.lit (.bool true)], args := [d] }
  | _ => none }
def fnExactLackingOfRow : OpenClaim := { program := "ytignjjkldmninaa", sum := "ce39b226085fb799acafd89e3a4135a6a8356f29f3297d1f04a1b9f6844f91f6", func := "loop.example/g00899/laws.FnExactLackingOf", spec := "fnExactLackingOf", inPlace := ["internal/abi.NoEscape", "internal/bytealg.MakeNoZero"], unfollowed := true, recurses := true, apart := false }
def FnExactLackingOfSaid : Prop := fnExactLackingOfRow.holds Try.pinned (OpenSpec.ofChange fnExactLackingOfSpec)

/-- ITS FALSE NEIGHBOUR: 'it returns false'. Refute it at one input. -/
def fnExactLackingOfWrong : ChangeSpec := { name := "fnExactLackingOf", fn := fun _ => fun
  | [d] => { results := [.lit (.bool false)], args := [d] }
  | _ => none }
def FnExactLackingOfWrongFalsely : Prop := fnExactLackingOfRow.holds Try.pinned (OpenSpec.ofChange fnExactLackingOfWrong)

/-- 'laws.FnExactCommonOf': WHATEVER THE INPUT: true; the input reads as it did. -/
def fnExactCommonOfSpec : ChangeSpec := { name := "fnExactCommonOf", fn := fun _ => fun
  | [d] => { results := [.lit (.bool true)], args := [d] }
  | _ => none }
def fnExactCommonOfRow : OpenClaim := { program := "ytignjjkldmninaa", sum := "ce39b226085fb799acafd89e3a4135a6a8356f29f3297d1f04a1b9f6844f91f6", func := "loop.example/g00899/laws.FnExactCommonOf", spec := "fnExactCommonOf", inPlace := ["internal/abi.NoEscape", "internal/bytealg.MakeNoZero"], unfollowed := true, recurses := true, apart := false }
def FnExactCommonOfSaid : Prop := fnExactCommonOfRow.holds Try.pinned (OpenSpec.ofChange fnExactCommonOfSpec)

/-- ITS FALSE NEIGHBOUR: 'it returns false'. Refute it at one input. -/
def fnExactCommonOfWrong : ChangeSpec := { name := "fnExactCommonOf", fn := fun _ => fun
  | [d] => { results := [.lit (.bool false)], args := [d] }
  | _ => none }
def FnExactCommonOfWrongFalsely : Prop := fnExactCommonOfRow.holds Try.pinned (OpenSpec.ofChange fnExactCommonOfWrong)

/-- 'laws.FnExactConflictsOf': WHATEVER THE INPUT: true; the input reads as it did. -/
def fnExactConflictsOfSpec : ChangeSpec := { name := "fnExactConflictsOf", fn := fun _ => fun
  | [d] => { results := [.lit (.bool true)], args := [d] }
  | _ => none }
def fnExactConflictsOfRow : OpenClaim := { program := "ytignjjkldmninaa", sum := "ce39b226085fb799acafd89e3a4135a6a8356f29f3297d1f04a1b9f6844f91f6", func := "loop.example/g00899/laws.FnExactConflictsOf", spec := "fnExactConflictsOf", inPlace := ["internal/abi.NoEscape", "internal/bytealg.MakeNoZero"], unfollowed := true, recurses := true, apart := false }
def FnExactConflictsOfSaid : Prop := fnExactConflictsOfRow.holds Try.pinned (OpenSpec.ofChange fnExactConflictsOfSpec)

/-- ITS FALSE NEIGHBOUR: 'it returns false'. Refute it at one input. -/
def fnExactConflictsOfWrong : ChangeSpec := { name := "fnExactConflictsOf", fn := fun _ => fun
  | [d] => { results := [.lit (.bool false)], args := [d] }
  | _ => none }
def FnExactConflictsOfWrongFalsely : Prop := fnExactConflictsOfRow.holds Try.pinned (OpenSpec.ofChange fnExactConflictsOfWrong)

/-- 'laws.FnExactFewestDumps': WHATEVER THE INPUT: true; the input reads as it did. -/
def fnExactFewestDumpsSpec : ChangeSpec := { name := "fnExactFewestDumps", fn := fun _ => fun
  | [d] => { results := [.lit (.bool true)], args := [d] }
  | _ => none }
def fnExactFewestDumpsRow : OpenClaim := { program := "ytignjjkldmninaa", sum := "ce39b226085fb799acafd89e3a4135a6a8356f29f3297d1f04a1b9f6844f91f6", func := "loop.example/g00899/laws.FnExactFewestDumps", spec := "fnExactFewestDumps", inPlace := ["internal/abi.NoEscape", "internal/bytealg.MakeNoZero"], unfollowed := true, recurses := true, apart := false }
def FnExactFewestDumpsSaid : Prop := fnExactFewestDumpsRow.holds Try.pinned (OpenSpec.ofChange fnExactFewestDumpsSpec)

/-- ITS FALSE NEIGHBOUR: 'it returns false'. Refute it at one input. -/
def fnExactFewestDumpsWrong : ChangeSpec := { name := "fnExactFewestDumps", fn := fun _ => fun
  | [d] => { results := [.lit (.bool false)], args := [d] }
  | _ => none }
def FnExactFewestDumpsWrongFalsely : Prop := fnExactFewestDumpsRow.holds Try.pinned (OpenSpec.ofChange fnExactFewestDumpsWrong)

/-- 'laws.FnExactMergeDumps': WHATEVER THE INPUT: true; the input reads as it did. -/
def fnExactMergeDumpsSpec : ChangeSpec := { name := "fnExactMergeDumps", fn := fun _ => fun
  | [d] => { results := [.lit (.bool true)], args := [d] }
  | _ => none }
def fnExactMergeDumpsRow : OpenClaim := { program := "ytignjjkldmninaa", sum := "ce39b226085fb799acafd89e3a4135a6a8356f29f3297d1f04a1b9f6844f91f6", func := "loop.example/g00899/laws.FnExactMergeDumps", spec := "fnExactMergeDumps", inPlace := ["internal/abi.NoEscape", "internal/bytealg.MakeNoZero"], apart := false }
def FnExactMergeDumpsSaid : Prop := fnExactMergeDumpsRow.holds Try.pinned (OpenSpec.ofChange fnExactMergeDumpsSpec)

/-- ITS FALSE NEIGHBOUR: 'it returns false'. Refute it at one input. -/
def fnExactMergeDumpsWrong : ChangeSpec := { name := "fnExactMergeDumps", fn := fun _ => fun
  | [d] => { results := [.lit (.bool false)], args := [d] }
  | _ => none }
def FnExactMergeDumpsWrongFalsely : Prop := fnExactMergeDumpsRow.holds Try.pinned (OpenSpec.ofChange fnExactMergeDumpsWrong)

/-- 'laws.FnFewest': WHATEVER THE INPUT: true; the input reads as it did. -/
def fnFewestSpec : ChangeSpec := { name := "fnFewest", fn := fun _ => fun
  | [d] => { results := [.lit (.bool true)], args := [d] }
  | _ => none }
def fnFewestRow : OpenClaim := { program := "ytignjjkldmninaa", sum := "ce39b226085fb799acafd89e3a4135a6a8356f29f3297d1f04a1b9f6844f91f6", func := "loop.example/g00899/laws.FnFewest", spec := "fnFewest", inPlace := ["internal/abi.NoEscape", "internal/bytealg.MakeNoZero"], unfollowed := true, recurses := true, apart := false }
def FnFewestSaid : Prop := fnFewestRow.holds Try.pinned (OpenSpec.ofChange fnFewestSpec)

/-- ITS FALSE NEIGHBOUR: 'it returns false'. Refute it at one input. -/
def fnFewestWrong : ChangeSpec := { name := "fnFewest", fn := fun _ => fun
  | [d] => { results := [.lit (.bool false)], args := [d] }
  | _ => none }
def FnFewestWrongFalsely : Prop := fnFewestRow.holds Try.pinned (OpenSpec.ofChange fnFewestWrong)

/-- 'laws.FnMergeSame': WHATEVER THE INPUT: true; the input reads as it did. -/
def fnMergeSameSpec : ChangeSpec := { name := "fnMergeSame", fn := fun _ => fun
  | [d1, d2] => { results := [.lit (.bool true)], args := [d1, d2] }
  | _ => none }
def fnMergeSameRow : OpenClaim := { program := "ytignjjkldmninaa", sum := "ce39b226085fb799acafd89e3a4135a6a8356f29f3297d1f04a1b9f6844f91f6", func := "loop.example/g00899/laws.FnMergeSame", spec := "fnMergeSame", inPlace := ["internal/abi.NoEscape", "internal/bytealg.MakeNoZero"], apart := false }
def FnMergeSameSaid : Prop := fnMergeSameRow.holds Try.pinned (OpenSpec.ofChange fnMergeSameSpec)

/-- ITS FALSE NEIGHBOUR: 'it returns false'. Refute it at one input. -/
def fnMergeSameWrong : ChangeSpec := { name := "fnMergeSame", fn := fun _ => fun
  | [d1, d2] => { results := [.lit (.bool false)], args := [d1, d2] }
  | _ => none }
def FnMergeSameWrongFalsely : Prop := fnMergeSameRow.holds Try.pinned (OpenSpec.ofChange fnMergeSameWrong)

/-- 'laws.FnMerged': WHATEVER THE INPUT: true; the input reads as it did. -/
def fnMergedSpec : ChangeSpec := { name := "fnMerged", fn := fun _ => fun
  | [d] => { results := [.lit (.bool true)], args := [d] }
  | _ => none }
def fnMergedRow : OpenClaim := { program := "ytignjjkldmninaa", sum := "ce39b226085fb799acafd89e3a4135a6a8356f29f3297d1f04a1b9f6844f91f6", func := "loop.example/g00899/laws.FnMerged", spec := "fnMerged", inPlace := ["internal/abi.NoEscape", "internal/bytealg.MakeNoZero"], unfollowed := true, recurses := true, apart := false }
def FnMergedSaid : Prop := fnMergedRow.holds Try.pinned (OpenSpec.ofChange fnMergedSpec)

/-- ITS FALSE NEIGHBOUR: 'it returns false'. Refute it at one input. -/
def fnMergedWrong : ChangeSpec := { name := "fnMerged", fn := fun _ => fun
  | [d] => { results := [.lit (.bool false)], args := [d] }
  | _ => none }
def FnMergedWrongFalsely : Prop := fnMergedRow.holds Try.pinned (OpenSpec.ofChange fnMergedWrong)

/- THE SECOND FORM. 'bulk': how many values and letters a reading holds, each counted each time it is reached (what is shared counts as often as it is met; a slice's spare places count too). A statement '..UptoSaid' is the law's where the arguments, and the package variables that the reading takes, are together of bulk at most 1048576: NARROWER than '..Said'. Prove '..Said' where nothing that the law and all that it calls make is longer than what came in: it says more and counts as full. Else prove '..UptoSaid'. A law counts once. -/
mutual
def uptoBulk {H : Type} : DataW H → Nat
  | .lit (.string bytes) => bytes.length + 1
  | .lit _ => 1
  | .nil => 1
  | .ptr d => uptoBulk d + 1
  | .slice elems spare => uptoBulkAll elems + uptoBulkAll spare + 1
  | .agg parts => uptoBulkAll parts + 1
  | .iface _ d => uptoBulk d + 1
  | .map entries => uptoBulkEntries entries + 1
  | .held _ => 1
def uptoBulkAll {H : Type} : List (DataW H) → Nat
  | [] => 0
  | d :: r => uptoBulk d + uptoBulkAll r
def uptoBulkEntries {H : Type} : List (Lit × DataW H) → Nat
  | [] => 0
  | x :: r => uptoBulkEntry x + uptoBulkEntries r
def uptoBulkEntry {H : Type} : Lit × DataW H → Nat
  | (.string bytes, d) => bytes.length + uptoBulk d + 1
  | (_, d) => uptoBulk d + 1
 end
def uptoSmall : (H : Type) → List (DataW H) → Bool := fun _ ds => decide (uptoBulkAll ds ≤ 1048576)
def OpenSpec.upto (s : _root_.Go.ChangeSpec) : _root_.Go.OpenSpec := { _root_.Go.OpenSpec.ofChange s with cond := some uptoSmall }

/-- 'laws.FnExactValidDumps', WHERE WHAT IT READS IS OF BULK AT MOST 1048576: true; the input reads as it did. -/
def fnExactValidDumpsUptoRow : OpenClaim := { program := "ytignjjkldmninaa", sum := "ce39b226085fb799acafd89e3a4135a6a8356f29f3297d1f04a1b9f6844f91f6", func := "loop.example/g00899/laws.FnExactValidDumps", spec := "fnExactValidDumps", inPlace := ["internal/abi.NoEscape", "internal/bytealg.MakeNoZero"], apart := false, narrowed := true }
def FnExactValidDumpsUptoSaid : Prop := fnExactValidDumpsUptoRow.holds Try.pinned (OpenSpec.upto fnExactValidDumpsSpec)

/-- 'laws.FnExactSameMerge', WHERE WHAT IT READS IS OF BULK AT MOST 1048576: true; the input reads as it did. -/
def fnExactSameMergeUptoRow : OpenClaim := { program := "ytignjjkldmninaa", sum := "ce39b226085fb799acafd89e3a4135a6a8356f29f3297d1f04a1b9f6844f91f6", func := "loop.example/g00899/laws.FnExactSameMerge", spec := "fnExactSameMerge", apart := false, narrowed := true }
def FnExactSameMergeUptoSaid : Prop := fnExactSameMergeUptoRow.holds Try.pinned (OpenSpec.upto fnExactSameMergeSpec)

/-- 'laws.FnExactBestDump', WHERE WHAT IT READS IS OF BULK AT MOST 1048576: true; the input reads as it did. -/
def fnExactBestDumpUptoRow : OpenClaim := { program := "ytignjjkldmninaa", sum := "ce39b226085fb799acafd89e3a4135a6a8356f29f3297d1f04a1b9f6844f91f6", func := "loop.example/g00899/laws.FnExactBestDump", spec := "fnExactBestDump", inPlace := ["internal/abi.NoEscape", "internal/bytealg.MakeNoZero"], apart := false, narrowed := true }
def FnExactBestDumpUptoSaid : Prop := fnExactBestDumpUptoRow.holds Try.pinned (OpenSpec.upto fnExactBestDumpSpec)

/-- 'laws.FnExactMergeSector', WHERE WHAT IT READS IS OF BULK AT MOST 1048576: true; the input reads as it did. -/
def fnExactMergeSectorUptoRow : OpenClaim := { program := "ytignjjkldmninaa", sum := "ce39b226085fb799acafd89e3a4135a6a8356f29f3297d1f04a1b9f6844f91f6", func := "loop.example/g00899/laws.FnExactMergeSector", spec := "fnExactMergeSector", inPlace := ["internal/abi.NoEscape", "internal/bytealg.MakeNoZero"], apart := false, narrowed := true }
def FnExactMergeSectorUptoSaid : Prop := fnExactMergeSectorUptoRow.holds Try.pinned (OpenSpec.upto fnExactMergeSectorSpec)

/-- 'laws.FnExactFillFrom', WHERE WHAT IT READS IS OF BULK AT MOST 1048576: true; the input reads as it did. -/
def fnExactFillFromUptoRow : OpenClaim := { program := "ytignjjkldmninaa", sum := "ce39b226085fb799acafd89e3a4135a6a8356f29f3297d1f04a1b9f6844f91f6", func := "loop.example/g00899/laws.FnExactFillFrom", spec := "fnExactFillFrom", inPlace := ["internal/abi.NoEscape", "internal/bytealg.MakeNoZero"], apart := false, narrowed := true }
def FnExactFillFromUptoSaid : Prop := fnExactFillFromUptoRow.holds Try.pinned (OpenSpec.upto fnExactFillFromSpec)

/-- 'laws.FnExactLackingOf', WHERE WHAT IT READS IS OF BULK AT MOST 1048576: true; the input reads as it did. -/
def fnExactLackingOfUptoRow : OpenClaim := { program := "ytignjjkldmninaa", sum := "ce39b226085fb799acafd89e3a4135a6a8356f29f3297d1f04a1b9f6844f91f6", func := "loop.example/g00899/laws.FnExactLackingOf", spec := "fnExactLackingOf", inPlace := ["internal/abi.NoEscape", "internal/bytealg.MakeNoZero"], unfollowed := true, recurses := true, apart := false, narrowed := true }
def FnExactLackingOfUptoSaid : Prop := fnExactLackingOfUptoRow.holds Try.pinned (OpenSpec.upto fnExactLackingOfSpec)

/-- 'laws.FnExactCommonOf', WHERE WHAT IT READS IS OF BULK AT MOST 1048576: true; the input reads as it did. -/
def fnExactCommonOfUptoRow : OpenClaim := { program := "ytignjjkldmninaa", sum := "ce39b226085fb799acafd89e3a4135a6a8356f29f3297d1f04a1b9f6844f91f6", func := "loop.example/g00899/laws.FnExactCommonOf", spec := "fnExactCommonOf", inPlace := ["internal/abi.NoEscape", "internal/bytealg.MakeNoZero"], unfollowed := true, recurses := true, apart := false, narrowed := true }
def FnExactCommonOfUptoSaid : Prop := fnExactCommonOfUptoRow.holds Try.pinned (OpenSpec.upto fnExactCommonOfSpec)

/-- 'laws.FnExactConflictsOf', WHERE WHAT IT READS IS OF BULK AT MOST 1048576: true; the input reads as it did. -/
def fnExactConflictsOfUptoRow : OpenClaim := { program := "ytignjjkldmninaa", sum := "ce39b226085fb799acafd89e3a4135a6a8356f29f3297d1f04a1b9f6844f91f6", func := "loop.example/g00899/laws.FnExactConflictsOf", spec := "fnExactConflictsOf", inPlace := ["internal/abi.NoEscape", "internal/bytealg.MakeNoZero"], unfollowed := true, recurses := true, apart := false, narrowed := true }
def FnExactConflictsOfUptoSaid : Prop := fnExactConflictsOfUptoRow.holds Try.pinned (OpenSpec.upto fnExactConflictsOfSpec)

/-- 'laws.FnExactFewestDumps', WHERE WHAT IT READS IS OF BULK AT MOST 1048576: true; the input reads as it did. -/
def fnExactFewestDumpsUptoRow : OpenClaim := { program := "ytignjjkldmninaa", sum := "ce39b226085fb799acafd89e3a4135a6a8356f29f3297d1f04a1b9f6844f91f6", func := "loop.example/g00899/laws.FnExactFewestDumps", spec := "fnExactFewestDumps", inPlace := ["internal/abi.NoEscape", "internal/bytealg.MakeNoZero"], unfollowed := true, recurses := true, apart := false, narrowed := true }
def FnExactFewestDumpsUptoSaid : Prop := fnExactFewestDumpsUptoRow.holds Try.pinned (OpenSpec.upto fnExactFewestDumpsSpec)

/-- 'laws.FnExactMergeDumps', WHERE WHAT IT READS IS OF BULK AT MOST 1048576: true; the input reads as it did. -/
def fnExactMergeDumpsUptoRow : OpenClaim := { program := "ytignjjkldmninaa", sum := "ce39b226085fb799acafd89e3a4135a6a8356f29f3297d1f04a1b9f6844f91f6", func := "loop.example/g00899/laws.FnExactMergeDumps", spec := "fnExactMergeDumps", inPlace := ["internal/abi.NoEscape", "internal/bytealg.MakeNoZero"], apart := false, narrowed := true }
def FnExactMergeDumpsUptoSaid : Prop := fnExactMergeDumpsUptoRow.holds Try.pinned (OpenSpec.upto fnExactMergeDumpsSpec)

/-- 'laws.FnFewest', WHERE WHAT IT READS IS OF BULK AT MOST 1048576: true; the input reads as it did. -/
def fnFewestUptoRow : OpenClaim := { program := "ytignjjkldmninaa", sum := "ce39b226085fb799acafd89e3a4135a6a8356f29f3297d1f04a1b9f6844f91f6", func := "loop.example/g00899/laws.FnFewest", spec := "fnFewest", inPlace := ["internal/abi.NoEscape", "internal/bytealg.MakeNoZero"], unfollowed := true, recurses := true, apart := false, narrowed := true }
def FnFewestUptoSaid : Prop := fnFewestUptoRow.holds Try.pinned (OpenSpec.upto fnFewestSpec)

/-- 'laws.FnMergeSame', WHERE WHAT IT READS IS OF BULK AT MOST 1048576: true; the input reads as it did. -/
def fnMergeSameUptoRow : OpenClaim := { program := "ytignjjkldmninaa", sum := "ce39b226085fb799acafd89e3a4135a6a8356f29f3297d1f04a1b9f6844f91f6", func := "loop.example/g00899/laws.FnMergeSame", spec := "fnMergeSame", inPlace := ["internal/abi.NoEscape", "internal/bytealg.MakeNoZero"], apart := false, narrowed := true }
def FnMergeSameUptoSaid : Prop := fnMergeSameUptoRow.holds Try.pinned (OpenSpec.upto fnMergeSameSpec)

/-- 'laws.FnMerged', WHERE WHAT IT READS IS OF BULK AT MOST 1048576: true; the input reads as it did. -/
def fnMergedUptoRow : OpenClaim := { program := "ytignjjkldmninaa", sum := "ce39b226085fb799acafd89e3a4135a6a8356f29f3297d1f04a1b9f6844f91f6", func := "loop.example/g00899/laws.FnMerged", spec := "fnMerged", inPlace := ["internal/abi.NoEscape", "internal/bytealg.MakeNoZero"], unfollowed := true, recurses := true, apart := false, narrowed := true }
def FnMergedUptoSaid : Prop := fnMergedUptoRow.holds Try.pinned (OpenSpec.upto fnMergedSpec)

end Rows
end Go.Proofs.Ytignjjkldmninaa
