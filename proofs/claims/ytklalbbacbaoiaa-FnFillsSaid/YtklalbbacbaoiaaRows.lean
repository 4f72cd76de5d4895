/-
  No cell of these rows narrows 'for every input' (looked for: loops, veiled, ifaces, maps, wideKeys, modest, calm, conditions, laid).
  DERIVED. THE GIVEN ROWS OF THIS SEAT. 12 by the template 'for every input the law returns true; each argument reads behind the call as it read before'; 0 by the template 'total and deterministic' (their statements: YtklalbbacbaoiaaTotals.lean).
  GIVEN WITH THE SEED: the statements are not yours to turn. If you find one false, say at which input.
  Laid BY PROGRAM, IN A SANDBOX (cutbox-rows.mjs): the forced cells as the released guide's own fill.sh prints them over the translation 1a318239b2ee8eb7… (all of the seat's roots in one cut). By AI agents, Wed Nov 11 2026. No macro, syntax, notation, axiom, sorry.
-/
import Derived.Test.YtklalbbacbaoiaaChecked
import GoSem.Claim
import GoSem.ClaimJoined
import GoSem.ClaimMapViews
import Derived.JoinedTies
import Derived.KernelRfl
namespace Go.Proofs.Ytklalbbacbaoiaa
/- THE CELL 'sum', in the pinned program and in every row, IS THE sha256 OF THE DUMP (.gsa) THAT YtklalbbacbaoiaaProg.lean LOADS. Nothing in Lean hashes anything: it is a label: what it is worth is what the hold of that sum in a sandbox is worth. -/
noncomputable def Try.pinned : Pinned := { name := "ytklalbbacbaoiaa", sum := "1a318239b2ee8eb75ddfb895b963f6dee46c2d65ba2f33f8c034b6e6818268df", checked := Try.checked }
namespace Rows
def none {H : Type} : Left H := { results := [], args := [] }

/-- 'laws.FnExactValidEquations': WHATEVER THE INPUT: true; the input reads as it did. -/
def fnExactValidEquationsSpec : ChangeSpec := { name := "fnExactValidEquations", fn := fun _ => fun
  | [d1, d2] => { results := [.lit (.bool true)], args := [d1, d2] }
  | _ => none }
def fnExactValidEquationsRow : OpenClaim := { program := "ytklalbbacbaoiaa", sum := "1a318239b2ee8eb75ddfb895b963f6dee46c2d65ba2f33f8c034b6e6818268df", func := "loop.example/g00899/laws.FnExactValidEquations", spec := "fnExactValidEquations", apart := false }
def FnExactValidEquationsSaid : Prop := fnExactValidEquationsRow.holds Try.pinned (OpenSpec.ofChange fnExactValidEquationsSpec)

/-- ITS FALSE NEIGHBOUR: 'it returns false'. Refute it at one input. -/
def fnExactValidEquationsWrong : ChangeSpec := { name := "fnExactValidEquations", fn := fun _ => fun
  | [d1, d2] => { results := [.lit (.bool false)], args := [d1, d2] }
  | _ => none }
def FnExactValidEquationsWrongFalsely : Prop := fnExactValidEquationsRow.holds Try.pinned (OpenSpec.ofChange fnExactValidEquationsWrong)

/-- 'laws.FnExactCrcEffect': WHATEVER THE INPUT: true; the input reads as it did. -/
def fnExactCrcEffectSpec : ChangeSpec := { name := "fnExactCrcEffect", fn := fun _ => fun
  | [d1, d2] => { results := [.lit (.bool true)], args := [d1, d2] }
  | _ => none }
def fnExactCrcEffectRow : OpenClaim := { program := "ytklalbbacbaoiaa", sum := "1a318239b2ee8eb75ddfb895b963f6dee46c2d65ba2f33f8c034b6e6818268df", func := "loop.example/g00899/laws.FnExactCrcEffect", spec := "fnExactCrcEffect", inPlace := ["internal/abi.NoEscape", "internal/bytealg.MakeNoZero"], apart := false }
def FnExactCrcEffectSaid : Prop := fnExactCrcEffectRow.holds Try.pinned (OpenSpec.ofChange fnExactCrcEffectSpec)

/-- ITS FALSE NEIGHBOUR: 'it returns false'. Refute it at one input. -/
def fnExactCrcEffectWrong : ChangeSpec := { name := "fnExactCrcEffect", fn := fun _ => fun
  | [d1, d2] => { results := [.lit (.bool false)], args := [d1, d2] }
  | _ => none }
def FnExactCrcEffectWrongFalsely : Prop := fnExactCrcEffectRow.holds Try.pinned (OpenSpec.ofChange fnExactCrcEffectWrong)

/-- 'laws.FnExactFindFlip': WHATEVER THE INPUT: true; the input reads as it did. -/
def fnExactFindFlipSpec : ChangeSpec := { name := "fnExactFindFlip", fn := fun _ => fun
  | [d1, d2] => { results := [.lit (.bool true)], args := [d1, d2] }
  | _ => none }
def fnExactFindFlipRow : OpenClaim := { program := "ytklalbbacbaoiaa", sum := "1a318239b2ee8eb75ddfb895b963f6dee46c2d65ba2f33f8c034b6e6818268df", func := "loop.example/g00899/laws.FnExactFindFlip", spec := "fnExactFindFlip", inPlace := ["internal/abi.NoEscape", "internal/bytealg.MakeNoZero"], apart := false }
def FnExactFindFlipSaid : Prop := fnExactFindFlipRow.holds Try.pinned (OpenSpec.ofChange fnExactFindFlipSpec)

/-- ITS FALSE NEIGHBOUR: 'it returns false'. Refute it at one input. -/
def fnExactFindFlipWrong : ChangeSpec := { name := "fnExactFindFlip", fn := fun _ => fun
  | [d1, d2] => { results := [.lit (.bool false)], args := [d1, d2] }
  | _ => none }
def FnExactFindFlipWrongFalsely : Prop := fnExactFindFlipRow.holds Try.pinned (OpenSpec.ofChange fnExactFindFlipWrong)

/-- 'laws.FnExactBurstsOf': WHATEVER THE INPUT: true; the input reads as it did. -/
def fnExactBurstsOfSpec : ChangeSpec := { name := "fnExactBurstsOf", fn := fun _ => fun
  | [d1, d2, d3] => { results := [.lit (.bool true)], args := [d1, d2, d3] }
  | _ => none }
def fnExactBurstsOfRow : OpenClaim := { program := "ytklalbbacbaoiaa", sum := "1a318239b2ee8eb75ddfb895b963f6dee46c2d65ba2f33f8c034b6e6818268df", func := "loop.example/g00899/laws.FnExactBurstsOf", spec := "fnExactBurstsOf", inPlace := ["internal/abi.NoEscape", "internal/bytealg.MakeNoZero"], apart := false }
def FnExactBurstsOfSaid : Prop := fnExactBurstsOfRow.holds Try.pinned (OpenSpec.ofChange fnExactBurstsOfSpec)

/-- ITS FALSE NEIGHBOUR: 'it returns false'. Refute it at one input. -/
def fnExactBurstsOfWrong : ChangeSpec := { name := "fnExactBurstsOf", fn := fun _ => fun
  | [d1, d2, d3] => { results := [.lit (.bool false)], args := [d1, d2, d3] }
  | _ => none }
def FnExactBurstsOfWrongFalsely : Prop := fnExactBurstsOfRow.holds Try.pinned (OpenSpec.ofChange fnExactBurstsOfWrong)

/-- 'laws.FnExactEquationsOf': WHATEVER THE INPUT: true; the input reads as it did. -/
def fnExactEquationsOfSpec : ChangeSpec := { name := "fnExactEquationsOf", fn := fun _ => fun
  | [d1, d2, d3] => { results := [.lit (.bool true)], args := [d1, d2, d3] }
  | _ => none }
def fnExactEquationsOfRow : OpenClaim := { program := "ytklalbbacbaoiaa", sum := "1a318239b2ee8eb75ddfb895b963f6dee46c2d65ba2f33f8c034b6e6818268df", func := "loop.example/g00899/laws.FnExactEquationsOf", spec := "fnExactEquationsOf", inPlace := ["internal/abi.NoEscape", "internal/bytealg.MakeNoZero"], apart := false }
def FnExactEquationsOfSaid : Prop := fnExactEquationsOfRow.holds Try.pinned (OpenSpec.ofChange fnExactEquationsOfSpec)

/-- ITS FALSE NEIGHBOUR: 'it returns false'. Refute it at one input. -/
def fnExactEquationsOfWrong : ChangeSpec := { name := "fnExactEquationsOf", fn := fun _ => fun
  | [d1, d2, d3] => { results := [.lit (.bool false)], args := [d1, d2, d3] }
  | _ => none }
def FnExactEquationsOfWrongFalsely : Prop := fnExactEquationsOfRow.holds Try.pinned (OpenSpec.ofChange fnExactEquationsOfWrong)

/-- 'laws.FnExactFreeBits': WHATEVER THE INPUT: true; the input reads as it did. -/
def fnExactFreeBitsSpec : ChangeSpec := { name := "fnExactFreeBits", fn := fun _ => fun
  | [d1, d2, d3] => { results := [.lit (.bool true)], args := [d1, d2, d3] }
  | _ => none }
def fnExactFreeBitsRow : OpenClaim := { program := "ytklalbbacbaoiaa", sum := "1a318239b2ee8eb75ddfb895b963f6dee46c2d65ba2f33f8c034b6e6818268df", func := "loop.example/g00899/laws.FnExactFreeBits", spec := "fnExactFreeBits", inPlace := ["internal/abi.NoEscape", "internal/bytealg.MakeNoZero"], unfollowed := true, recurses := true, apart := false }
def FnExactFreeBitsSaid : Prop := fnExactFreeBitsRow.holds Try.pinned (OpenSpec.ofChange fnExactFreeBitsSpec)

/-- ITS FALSE NEIGHBOUR: 'it returns false'. Refute it at one input. -/
def fnExactFreeBitsWrong : ChangeSpec := { name := "fnExactFreeBits", fn := fun _ => fun
  | [d1, d2, d3] => { results := [.lit (.bool false)], args := [d1, d2, d3] }
  | _ => none }
def FnExactFreeBitsWrongFalsely : Prop := fnExactFreeBitsRow.holds Try.pinned (OpenSpec.ofChange fnExactFreeBitsWrong)

/-- 'laws.FnExactFirstFill': WHATEVER THE INPUT: true; the input reads as it did. -/
def fnExactFirstFillSpec : ChangeSpec := { name := "fnExactFirstFill", fn := fun _ => fun
  | [d1, d2, d3] => { results := [.lit (.bool true)], args := [d1, d2, d3] }
  | _ => none }
def fnExactFirstFillRow : OpenClaim := { program := "ytklalbbacbaoiaa", sum := "1a318239b2ee8eb75ddfb895b963f6dee46c2d65ba2f33f8c034b6e6818268df", func := "loop.example/g00899/laws.FnExactFirstFill", spec := "fnExactFirstFill", inPlace := ["internal/abi.NoEscape", "internal/bytealg.MakeNoZero"], unfollowed := true, recurses := true, apart := false }
def FnExactFirstFillSaid : Prop := fnExactFirstFillRow.holds Try.pinned (OpenSpec.ofChange fnExactFirstFillSpec)

/-- ITS FALSE NEIGHBOUR: 'it returns false'. Refute it at one input. -/
def fnExactFirstFillWrong : ChangeSpec := { name := "fnExactFirstFill", fn := fun _ => fun
  | [d1, d2, d3] => { results := [.lit (.bool false)], args := [d1, d2, d3] }
  | _ => none }
def FnExactFirstFillWrongFalsely : Prop := fnExactFirstFillRow.holds Try.pinned (OpenSpec.ofChange fnExactFirstFillWrong)

/-- 'laws.FnExactAllFills': WHATEVER THE INPUT: true; the input reads as it did. -/
def fnExactAllFillsSpec : ChangeSpec := { name := "fnExactAllFills", fn := fun _ => fun
  | [d1, d2, d3, d4] => { results := [.lit (.bool true)], args := [d1, d2, d3, d4] }
  | _ => none }
def fnExactAllFillsRow : OpenClaim := { program := "ytklalbbacbaoiaa", sum := "1a318239b2ee8eb75ddfb895b963f6dee46c2d65ba2f33f8c034b6e6818268df", func := "loop.example/g00899/laws.FnExactAllFills", spec := "fnExactAllFills", inPlace := ["internal/abi.NoEscape", "internal/bytealg.MakeNoZero"], unfollowed := true, recurses := true, apart := false }
def FnExactAllFillsSaid : Prop := fnExactAllFillsRow.holds Try.pinned (OpenSpec.ofChange fnExactAllFillsSpec)

/-- ITS FALSE NEIGHBOUR: 'it returns false'. Refute it at one input. -/
def fnExactAllFillsWrong : ChangeSpec := { name := "fnExactAllFills", fn := fun _ => fun
  | [d1, d2, d3, d4] => { results := [.lit (.bool false)], args := [d1, d2, d3, d4] }
  | _ => none }
def FnExactAllFillsWrongFalsely : Prop := fnExactAllFillsRow.holds Try.pinned (OpenSpec.ofChange fnExactAllFillsWrong)

/-- 'laws.FnExactSolveBytes': WHATEVER THE INPUT: true; the input reads as it did. -/
def fnExactSolveBytesSpec : ChangeSpec := { name := "fnExactSolveBytes", fn := fun _ => fun
  | [d1, d2, d3] => { results := [.lit (.bool true)], args := [d1, d2, d3] }
  | _ => none }
def fnExactSolveBytesRow : OpenClaim := { program := "ytklalbbacbaoiaa", sum := "1a318239b2ee8eb75ddfb895b963f6dee46c2d65ba2f33f8c034b6e6818268df", func := "loop.example/g00899/laws.FnExactSolveBytes", spec := "fnExactSolveBytes", inPlace := ["internal/abi.NoEscape", "internal/bytealg.MakeNoZero"], unfollowed := true, recurses := true, apart := false }
def FnExactSolveBytesSaid : Prop := fnExactSolveBytesRow.holds Try.pinned (OpenSpec.ofChange fnExactSolveBytesSpec)

/-- ITS FALSE NEIGHBOUR: 'it returns false'. Refute it at one input. -/
def fnExactSolveBytesWrong : ChangeSpec := { name := "fnExactSolveBytes", fn := fun _ => fun
  | [d1, d2, d3] => { results := [.lit (.bool false)], args := [d1, d2, d3] }
  | _ => none }
def FnExactSolveBytesWrongFalsely : Prop := fnExactSolveBytesRow.holds Try.pinned (OpenSpec.ofChange fnExactSolveBytesWrong)

/-- 'laws.FnFills': WHATEVER THE INPUT: true; the input reads as it did. -/
def fnFillsSpec : ChangeSpec := { name := "fnFills", fn := fun _ => fun
  | [d] => { results := [.lit (.bool true)], args := [d] }
  | _ => none }
def fnFillsRow : OpenClaim := { program := "ytklalbbacbaoiaa", sum := "1a318239b2ee8eb75ddfb895b963f6dee46c2d65ba2f33f8c034b6e6818268df", func := "loop.example/g00899/laws.FnFills", spec := "fnFills", inPlace := ["internal/abi.NoEscape", "internal/bytealg.MakeNoZero"], unfollowed := true, recurses := true, apart := false }
def FnFillsSaid : Prop := fnFillsRow.holds Try.pinned (OpenSpec.ofChange fnFillsSpec)

/-- ITS FALSE NEIGHBOUR: 'it returns false'. Refute it at one input. -/
def fnFillsWrong : ChangeSpec := { name := "fnFills", fn := fun _ => fun
  | [d] => { results := [.lit (.bool false)], args := [d] }
  | _ => none }
def FnFillsWrongFalsely : Prop := fnFillsRow.holds Try.pinned (OpenSpec.ofChange fnFillsWrong)

/-- 'laws.FnFlips': WHATEVER THE INPUT: true; the input reads as it did. -/
def fnFlipsSpec : ChangeSpec := { name := "fnFlips", fn := fun _ => fun
  | [d1, d2] => { results := [.lit (.bool true)], args := [d1, d2] }
  | _ => none }
def fnFlipsRow : OpenClaim := { program := "ytklalbbacbaoiaa", sum := "1a318239b2ee8eb75ddfb895b963f6dee46c2d65ba2f33f8c034b6e6818268df", func := "loop.example/g00899/laws.FnFlips", spec := "fnFlips", inPlace := ["internal/abi.NoEscape", "internal/bytealg.MakeNoZero"], apart := false }
def FnFlipsSaid : Prop := fnFlipsRow.holds Try.pinned (OpenSpec.ofChange fnFlipsSpec)

/-- ITS FALSE NEIGHBOUR: 'it returns false'. Refute it at one input. -/
def fnFlipsWrong : ChangeSpec := { name := "fnFlips", fn := fun _ => fun
  | [d1, d2] => { results := [.lit (.bool false)], args := [d1, d2] }
  | _ => none }
def FnFlipsWrongFalsely : Prop := fnFlipsRow.holds Try.pinned (OpenSpec.ofChange fnFlipsWrong)

/-- 'laws.FnSolvedBytes': WHATEVER THE INPUT: true; the input reads as it did. -/
def fnSolvedBytesSpec : ChangeSpec := { name := "fnSolvedBytes", fn := fun _ => fun
  | [d1, d2] => { results := [.lit (.bool true)], args := [d1, d2] }
  | _ => none }
def fnSolvedBytesRow : OpenClaim := { program := "ytklalbbacbaoiaa", sum := "1a318239b2ee8eb75ddfb895b963f6dee46c2d65ba2f33f8c034b6e6818268df", func := "loop.example/g00899/laws.FnSolvedBytes", spec := "fnSolvedBytes", inPlace := ["internal/abi.NoEscape", "internal/bytealg.MakeNoZero"], unfollowed := true, recurses := true, apart := false }
def FnSolvedBytesSaid : Prop := fnSolvedBytesRow.holds Try.pinned (OpenSpec.ofChange fnSolvedBytesSpec)

/-- ITS FALSE NEIGHBOUR: 'it returns false'. Refute it at one input. -/
def fnSolvedBytesWrong : ChangeSpec := { name := "fnSolvedBytes", fn := fun _ => fun
  | [d1, d2] => { results := [.lit (.bool false)], args := [d1, d2] }
  | _ => none }
def FnSolvedBytesWrongFalsely : Prop := fnSolvedBytesRow.holds Try.pinned (OpenSpec.ofChange fnSolvedBytesWrong)

/- THE SECOND FORM. 'bulk': how many values and letters a reading holds, each counted each time it is reached (what is shared counts as often as it is met; a slice's spare places count too). A statement '..UptoSaid' is the law's where the arguments, and the package variables that the reading takes, are together of bulk at most 1048576: NARROWER than '..Said'. Prove '..Said' where nothing that the law and all that it calls make is longer than what came in: it says more and counts as full. Else prove '..UptoSaid'. A law counts once. -/
mutual
def uptoBulk {H : Type} : DataW H → Nat
  | .lit (.string bytes) => bytes.length + 1
  | .lit _ => 1
  | .nil => 1
  | .ptr d => uptoBulk d + 1
  | .slice elems spare => uptoBulkAll elems + uptoBulkAll spare + 1
  | .agg parts => uptoBulkAll parts + 1
  | .iface _ d => uptoBulk d + 1
  | .map entries => uptoBulkEntries entries + 1
  | .held _ => 1
def uptoBulkAll {H : Type} : List (DataW H) → Nat
  | [] => 0
  | d :: r => uptoBulk d + uptoBulkAll r
def uptoBulkEntries {H : Type} : List (Lit × DataW H) → Nat
  | [] => 0
  | x :: r => uptoBulkEntry x + uptoBulkEntries r
def uptoBulkEntry {H : Type} : Lit × DataW H → Nat
  | (.string bytes, d) => bytes.length + uptoBulk d + 1
  | (_, d) => uptoBulk d + 1
 end
def uptoSmall : (H : Type) → List (DataW H) → Bool := fun _ ds => decide (uptoBulkAll ds ≤ 1048576)
def OpenSpec.upto (s : _root_.Go.ChangeSpec) : _root_.Go.OpenSpec := { _root_.Go.OpenSpec.ofChange s with cond := some uptoSmall }

/-- 'laws.FnExactValidEquations', WHERE WHAT IT READS IS OF BULK AT MOST 1048576: true; the input reads as it did. -/
def fnExactValidEquationsUptoRow : OpenClaim := { program := "ytklalbbacbaoiaa", sum := "1a318239b2ee8eb75ddfb895b963f6dee46c2d65ba2f33f8c034b6e6818268df", func := "loop.example/g00899/laws.FnExactValidEquations", spec := "fnExactValidEquations", apart := false, narrowed := true }
def FnExactValidEquationsUptoSaid : Prop := fnExactValidEquationsUptoRow.holds Try.pinned (OpenSpec.upto fnExactValidEquationsSpec)

/-- 'laws.FnExactCrcEffect', WHERE WHAT IT READS IS OF BULK AT MOST 1048576: true; the input reads as it did. -/
def fnExactCrcEffectUptoRow : OpenClaim := { program := "ytklalbbacbaoiaa", sum := "1a318239b2ee8eb75ddfb895b963f6dee46c2d65ba2f33f8c034b6e6818268df", func := "loop.example/g00899/laws.FnExactCrcEffect", spec := "fnExactCrcEffect", inPlace := ["internal/abi.NoEscape", "internal/bytealg.MakeNoZero"], apart := false, narrowed := true }
def FnExactCrcEffectUptoSaid : Prop := fnExactCrcEffectUptoRow.holds Try.pinned (OpenSpec.upto fnExactCrcEffectSpec)

/-- 'laws.FnExactFindFlip', WHERE WHAT IT READS IS OF BULK AT MOST 1048576: true; the input reads as it did. -/
def fnExactFindFlipUptoRow : OpenClaim := { program := "ytklalbbacbaoiaa", sum := "1a318239b2ee8eb75ddfb895b963f6dee46c2d65ba2f33f8c034b6e6818268df", func := "loop.example/g00899/laws.FnExactFindFlip", spec := "fnExactFindFlip", inPlace := ["internal/abi.NoEscape", "internal/bytealg.MakeNoZero"], apart := false, narrowed := true }
def FnExactFindFlipUptoSaid : Prop := fnExactFindFlipUptoRow.holds Try.pinned (OpenSpec.upto fnExactFindFlipSpec)

/-- 'laws.FnExactBurstsOf', WHERE WHAT IT READS IS OF BULK AT MOST 1048576: true; the input reads as it did. -/
def fnExactBurstsOfUptoRow : OpenClaim := { program := "ytklalbbacbaoiaa", sum := "1a318239b2ee8eb75ddfb895b963f6dee46c2d65ba2f33f8c034b6e6818268df", func := "loop.example/g00899/laws.FnExactBurstsOf", spec := "fnExactBurstsOf", inPlace := ["internal/abi.NoEscape", "internal/bytealg.MakeNoZero"], apart := false, narrowed := true }
def FnExactBurstsOfUptoSaid : Prop := fnExactBurstsOfUptoRow.holds Try.pinned (OpenSpec.upto fnExactBurstsOfSpec)

/-- 'laws.FnExactEquationsOf', WHERE WHAT IT READS IS OF BULK AT MOST 1048576: true; the input reads as it did. -/
def fnExactEquationsOfUptoRow : OpenClaim := { program := "ytklalbbacbaoiaa", sum := "1a318239b2ee8eb75ddfb895b963f6dee46c2d65ba2f33f8c034b6e6818268df", func := "loop.example/g00899/laws.FnExactEquationsOf", spec := "fnExactEquationsOf", inPlace := ["internal/abi.NoEscape", "internal/bytealg.MakeNoZero"], apart := false, narrowed := true }
def FnExactEquationsOfUptoSaid : Prop := fnExactEquationsOfUptoRow.holds Try.pinned (OpenSpec.upto fnExactEquationsOfSpec)

/-- 'laws.FnExactFreeBits', WHERE WHAT IT READS IS OF BULK AT MOST 1048576: true; the input reads as it did. -/
def fnExactFreeBitsUptoRow : OpenClaim := { program := "ytklalbbacbaoiaa", sum := "1a318239b2ee8eb75ddfb895b963f6dee46c2d65ba2f33f8c034b6e6818268df", func := "loop.example/g00899/laws.FnExactFreeBits", spec := "fnExactFreeBits", inPlace := ["internal/abi.NoEscape", "internal/bytealg.MakeNoZero"], unfollowed := true, recurses := true, apart := false, narrowed := true }
def FnExactFreeBitsUptoSaid : Prop := fnExactFreeBitsUptoRow.holds Try.pinned (OpenSpec.upto fnExactFreeBitsSpec)

/-- 'laws.FnExactFirstFill', WHERE WHAT IT READS IS OF BULK AT MOST 1048576: true; the input reads as it did. -/
def fnExactFirstFillUptoRow : OpenClaim := { program := "ytklalbbacbaoiaa", sum := "1a318239b2ee8eb75ddfb895b963f6dee46c2d65ba2f33f8c034b6e6818268df", func := "loop.example/g00899/laws.FnExactFirstFill", spec := "fnExactFirstFill", inPlace := ["internal/abi.NoEscape", "internal/bytealg.MakeNoZero"], unfollowed := true, recurses := true, apart := false, narrowed := true }
def FnExactFirstFillUptoSaid : Prop := fnExactFirstFillUptoRow.holds Try.pinned (OpenSpec.upto fnExactFirstFillSpec)

/-- 'laws.FnExactAllFills', WHERE WHAT IT READS IS OF BULK AT MOST 1048576: true; the input reads as it did. -/
def fnExactAllFillsUptoRow : OpenClaim := { program := "ytklalbbacbaoiaa", sum := "1a318239b2ee8eb75ddfb895b963f6dee46c2d65ba2f33f8c034b6e6818268df", func := "loop.example/g00899/laws.FnExactAllFills", spec := "fnExactAllFills", inPlace := ["internal/abi.NoEscape", "internal/bytealg.MakeNoZero"], unfollowed := true, recurses := true, apart := false, narrowed := true }
def FnExactAllFillsUptoSaid : Prop := fnExactAllFillsUptoRow.holds Try.pinned (OpenSpec.upto fnExactAllFillsSpec)

/-- 'laws.FnExactSolveBytes', WHERE WHAT IT READS IS OF BULK AT MOST 1048576: true; the input reads as it did. -/
def fnExactSolveBytesUptoRow : OpenClaim := { program := "ytklalbbacbaoiaa", sum := "1a318239b2ee8eb75ddfb895b963f6dee46c2d65ba2f33f8c034b6e6818268df", func := "loop.example/g00899/laws.FnExactSolveBytes", spec := "fnExactSolveBytes", inPlace := ["internal/abi.NoEscape", "internal/bytealg.MakeNoZero"], unfollowed := true, recurses := true, apart := false, narrowed := true }
def FnExactSolveBytesUptoSaid : Prop := fnExactSolveBytesUptoRow.holds Try.pinned (OpenSpec.upto fnExactSolveBytesSpec)

/-- 'laws.FnFills', WHERE WHAT IT READS IS OF BULK AT MOST 1048576: true; the input reads as it did. -/
def fnFillsUptoRow : OpenClaim := { program := "ytklalbbacbaoiaa", sum := "1a318239b2ee8eb75ddfb895b963f6dee46c2d65ba2f33f8c034b6e6818268df", func := "loop.example/g00899/laws.FnFills", spec := "fnFills", inPlace := ["internal/abi.NoEscape", "internal/bytealg.MakeNoZero"], unfollowed := true, recurses := true, apart := false, narrowed := true }
def FnFillsUptoSaid : Prop := fnFillsUptoRow.holds Try.pinned (OpenSpec.upto fnFillsSpec)

/-- 'laws.FnFlips', WHERE WHAT IT READS IS OF BULK AT MOST 1048576: true; the input reads as it did. -/
def fnFlipsUptoRow : OpenClaim := { program := "ytklalbbacbaoiaa", sum := "1a318239b2ee8eb75ddfb895b963f6dee46c2d65ba2f33f8c034b6e6818268df", func := "loop.example/g00899/laws.FnFlips", spec := "fnFlips", inPlace := ["internal/abi.NoEscape", "internal/bytealg.MakeNoZero"], apart := false, narrowed := true }
def FnFlipsUptoSaid : Prop := fnFlipsUptoRow.holds Try.pinned (OpenSpec.upto fnFlipsSpec)

/-- 'laws.FnSolvedBytes', WHERE WHAT IT READS IS OF BULK AT MOST 1048576: true; the input reads as it did. -/
def fnSolvedBytesUptoRow : OpenClaim := { program := "ytklalbbacbaoiaa", sum := "1a318239b2ee8eb75ddfb895b963f6dee46c2d65ba2f33f8c034b6e6818268df", func := "loop.example/g00899/laws.FnSolvedBytes", spec := "fnSolvedBytes", inPlace := ["internal/abi.NoEscape", "internal/bytealg.MakeNoZero"], unfollowed := true, recurses := true, apart := false, narrowed := true }
def FnSolvedBytesUptoSaid : Prop := fnSolvedBytesUptoRow.holds Try.pinned (OpenSpec.upto fnSolvedBytesSpec)

end Rows
end Go.Proofs.Ytklalbbacbaoiaa
