/-
  No cell of these rows narrows 'for every input' (looked for: loops, veiled, ifaces, maps, wideKeys, modest, calm, conditions, laid).
  DERIVED. THE GIVEN ROWS OF THIS SEAT. 8 by the template 'for every input the law returns true; each argument reads behind the call as it read before'; 0 by the template 'total and deterministic' (their statements: YtkcdemjflbnhbaaTotals.lean).
  GIVEN WITH THE SEED: the statements are not yours to turn. If you find one false, say at which input.
  Laid BY PROGRAM, IN A SANDBOX (cutbox-rows.mjs): the forced cells as the released guide's own fill.sh prints them over the translation 8da49185a21e4160… (all of the seat's roots in one cut). By AI agents, Wed Nov 11 2026. No macro, syntax, notation, axiom, sorry.
-/
import Derived.Test.YtkcdemjflbnhbaaChecked
import GoSem.Claim
import GoSem.ClaimJoined
import GoSem.ClaimMapViews
import Derived.JoinedTies
import Derived.KernelRfl
namespace Go.Proofs.Ytkcdemjflbnhbaa
/- THE CELL 'sum', in the pinned program and in every row, IS THE sha256 OF THE DUMP (.gsa) THAT YtkcdemjflbnhbaaProg.lean LOADS. Nothing in Lean hashes anything: it is a label: what it is worth is what the hold of that sum in a sandbox is worth. -/
noncomputable def Try.pinned : Pinned := { name := "ytkcdemjflbnhbaa", sum := "8da49185a21e41602d4be08b511f11cb628f49fbc017ae6cdee48af7a8feae51", checked := Try.checked }
namespace Rows
def none {H : Type} : Left H := { results := [], args := [] }

/-- 'laws.FnExactValidVerb': WHATEVER THE INPUT: true; the input reads as it did. -/
def fnExactValidVerbSpec : ChangeSpec := { name := "fnExactValidVerb", fn := fun _ => fun
  | [d] => { results := [.lit (.bool true)], args := [d] }
  | _ => none }
def fnExactValidVerbRow : OpenClaim := { program := "ytkcdemjflbnhbaa", sum := "8da49185a21e41602d4be08b511f11cb628f49fbc017ae6cdee48af7a8feae51", func := "loop.example/g00899/laws.FnExactValidVerb", spec := "fnExactValidVerb", apart := false }
def FnExactValidVerbSaid : Prop := fnExactValidVerbRow.holds Try.pinned (OpenSpec.ofChange fnExactValidVerbSpec)

/-- ITS FALSE NEIGHBOUR: 'it returns false'. Refute it at one input. -/
def fnExactValidVerbWrong : ChangeSpec := { name := "fnExactValidVerb", fn := fun _ => fun
  | [d] => { results := [.lit (.bool false)], args := [d] }
  | _ => none }
def FnExactValidVerbWrongFalsely : Prop := fnExactValidVerbRow.holds Try.pinned (OpenSpec.ofChange fnExactValidVerbWrong)

/-- 'laws.FnExactFirstBroken': WHATEVER THE INPUT: true; the input reads as it did. -/
def fnExactFirstBrokenSpec : ChangeSpec := { name := "fnExactFirstBroken", fn := fun _ => fun
  | [d] => { results := [.lit (.bool true)], args := [d] }
  | _ => none }
def fnExactFirstBrokenRow : OpenClaim := { program := "ytkcdemjflbnhbaa", sum := "8da49185a21e41602d4be08b511f11cb628f49fbc017ae6cdee48af7a8feae51", func := "loop.example/g00899/laws.FnExactFirstBroken", spec := "fnExactFirstBroken", apart := false }
def FnExactFirstBrokenSaid : Prop := fnExactFirstBrokenRow.holds Try.pinned (OpenSpec.ofChange fnExactFirstBrokenSpec)

/-- ITS FALSE NEIGHBOUR: 'it returns false'. Refute it at one input. -/
def fnExactFirstBrokenWrong : ChangeSpec := { name := "fnExactFirstBroken", fn := fun _ => fun
  | [d] => { results := [.lit (.bool false)], args := [d] }
  | _ => none }
def FnExactFirstBrokenWrongFalsely : Prop := fnExactFirstBrokenRow.holds Try.pinned (OpenSpec.ofChange fnExactFirstBrokenWrong)

/-- 'laws.FnExactValidLedger': WHATEVER THE INPUT: true; the input reads as it did. -/
def fnExactValidLedgerSpec : ChangeSpec := { name := "fnExactValidLedger", fn := fun _ => fun
  | [d] => { results := [.lit (.bool true)], args := [d] }
  | _ => none }
def fnExactValidLedgerRow : OpenClaim := { program := "ytkcdemjflbnhbaa", sum := "8da49185a21e41602d4be08b511f11cb628f49fbc017ae6cdee48af7a8feae51", func := "loop.example/g00899/laws.FnExactValidLedger", spec := "fnExactValidLedger", apart := false }
def FnExactValidLedgerSaid : Prop := fnExactValidLedgerRow.holds Try.pinned (OpenSpec.ofChange fnExactValidLedgerSpec)

/-- ITS FALSE NEIGHBOUR: 'it returns false'. Refute it at one input. -/
def fnExactValidLedgerWrong : ChangeSpec := { name := "fnExactValidLedger", fn := fun _ => fun
  | [d] => { results := [.lit (.bool false)], args := [d] }
  | _ => none }
def FnExactValidLedgerWrongFalsely : Prop := fnExactValidLedgerRow.holds Try.pinned (OpenSpec.ofChange fnExactValidLedgerWrong)

/-- 'laws.FnExactLedgerFits': WHATEVER THE INPUT: true; the input reads as it did. -/
def fnExactLedgerFitsSpec : ChangeSpec := { name := "fnExactLedgerFits", fn := fun _ => fun
  | [d1, d2, d3] => { results := [.lit (.bool true)], args := [d1, d2, d3] }
  | _ => none }
def fnExactLedgerFitsRow : OpenClaim := { program := "ytkcdemjflbnhbaa", sum := "8da49185a21e41602d4be08b511f11cb628f49fbc017ae6cdee48af7a8feae51", func := "loop.example/g00899/laws.FnExactLedgerFits", spec := "fnExactLedgerFits", apart := false }
def FnExactLedgerFitsSaid : Prop := fnExactLedgerFitsRow.holds Try.pinned (OpenSpec.ofChange fnExactLedgerFitsSpec)

/-- ITS FALSE NEIGHBOUR: 'it returns false'. Refute it at one input. -/
def fnExactLedgerFitsWrong : ChangeSpec := { name := "fnExactLedgerFits", fn := fun _ => fun
  | [d1, d2, d3] => { results := [.lit (.bool false)], args := [d1, d2, d3] }
  | _ => none }
def FnExactLedgerFitsWrongFalsely : Prop := fnExactLedgerFitsRow.holds Try.pinned (OpenSpec.ofChange fnExactLedgerFitsWrong)

/-- 'laws.FnExactFindStates': WHATEVER THE INPUT: true; the input reads as it did. -/
def fnExactFindStatesSpec : ChangeSpec := { name := "fnExactFindStates", fn := fun _ => fun
  | [d1, d2] => { results := [.lit (.bool true)], args := [d1, d2] }
  | _ => none }
def fnExactFindStatesRow : OpenClaim := { program := "ytkcdemjflbnhbaa", sum := "8da49185a21e41602d4be08b511f11cb628f49fbc017ae6cdee48af7a8feae51", func := "loop.example/g00899/laws.FnExactFindStates", spec := "fnExactFindStates", apart := false }
def FnExactFindStatesSaid : Prop := fnExactFindStatesRow.holds Try.pinned (OpenSpec.ofChange fnExactFindStatesSpec)

/-- ITS FALSE NEIGHBOUR: 'it returns false'. Refute it at one input. -/
def fnExactFindStatesWrong : ChangeSpec := { name := "fnExactFindStates", fn := fun _ => fun
  | [d1, d2] => { results := [.lit (.bool false)], args := [d1, d2] }
  | _ => none }
def FnExactFindStatesWrongFalsely : Prop := fnExactFindStatesRow.holds Try.pinned (OpenSpec.ofChange fnExactFindStatesWrong)

/-- 'laws.FnExactAppendEntry': WHATEVER THE INPUT: true; the input reads as it did. -/
def fnExactAppendEntrySpec : ChangeSpec := { name := "fnExactAppendEntry", fn := fun _ => fun
  | [d1, d2, d3, d4] => { results := [.lit (.bool true)], args := [d1, d2, d3, d4] }
  | _ => none }
def fnExactAppendEntryRow : OpenClaim := { program := "ytkcdemjflbnhbaa", sum := "8da49185a21e41602d4be08b511f11cb628f49fbc017ae6cdee48af7a8feae51", func := "loop.example/g00899/laws.FnExactAppendEntry", spec := "fnExactAppendEntry", apart := false }
def FnExactAppendEntrySaid : Prop := fnExactAppendEntryRow.holds Try.pinned (OpenSpec.ofChange fnExactAppendEntrySpec)

/-- ITS FALSE NEIGHBOUR: 'it returns false'. Refute it at one input. -/
def fnExactAppendEntryWrong : ChangeSpec := { name := "fnExactAppendEntry", fn := fun _ => fun
  | [d1, d2, d3, d4] => { results := [.lit (.bool false)], args := [d1, d2, d3, d4] }
  | _ => none }
def FnExactAppendEntryWrongFalsely : Prop := fnExactAppendEntryRow.holds Try.pinned (OpenSpec.ofChange fnExactAppendEntryWrong)

/-- 'laws.FnExactJoinLedgers': WHATEVER THE INPUT: true; the input reads as it did. -/
def fnExactJoinLedgersSpec : ChangeSpec := { name := "fnExactJoinLedgers", fn := fun _ => fun
  | [d1, d2] => { results := [.lit (.bool true)], args := [d1, d2] }
  | _ => none }
def fnExactJoinLedgersRow : OpenClaim := { program := "ytkcdemjflbnhbaa", sum := "8da49185a21e41602d4be08b511f11cb628f49fbc017ae6cdee48af7a8feae51", func := "loop.example/g00899/laws.FnExactJoinLedgers", spec := "fnExactJoinLedgers", apart := false }
def FnExactJoinLedgersSaid : Prop := fnExactJoinLedgersRow.holds Try.pinned (OpenSpec.ofChange fnExactJoinLedgersSpec)

/-- ITS FALSE NEIGHBOUR: 'it returns false'. Refute it at one input. -/
def fnExactJoinLedgersWrong : ChangeSpec := { name := "fnExactJoinLedgers", fn := fun _ => fun
  | [d1, d2] => { results := [.lit (.bool false)], args := [d1, d2] }
  | _ => none }
def FnExactJoinLedgersWrongFalsely : Prop := fnExactJoinLedgersRow.holds Try.pinned (OpenSpec.ofChange fnExactJoinLedgersWrong)

/-- 'laws.FnJoined': WHATEVER THE INPUT: true; the input reads as it did. -/
def fnJoinedSpec : ChangeSpec := { name := "fnJoined", fn := fun _ => fun
  | [d] => { results := [.lit (.bool true)], args := [d] }
  | _ => none }
def fnJoinedRow : OpenClaim := { program := "ytkcdemjflbnhbaa", sum := "8da49185a21e41602d4be08b511f11cb628f49fbc017ae6cdee48af7a8feae51", func := "loop.example/g00899/laws.FnJoined", spec := "fnJoined", apart := false }
def FnJoinedSaid : Prop := fnJoinedRow.holds Try.pinned (OpenSpec.ofChange fnJoinedSpec)

/-- ITS FALSE NEIGHBOUR: 'it returns false'. Refute it at one input. -/
def fnJoinedWrong : ChangeSpec := { name := "fnJoined", fn := fun _ => fun
  | [d] => { results := [.lit (.bool false)], args := [d] }
  | _ => none }
def FnJoinedWrongFalsely : Prop := fnJoinedRow.holds Try.pinned (OpenSpec.ofChange fnJoinedWrong)

/- THE SECOND FORM. 'bulk': how many values and letters a reading holds, each counted each time it is reached (what is shared counts as often as it is met; a slice's spare places count too). A statement '..UptoSaid' is the law's where the arguments, and the package variables that the reading takes, are together of bulk at most 1048576: NARROWER than '..Said'. Prove '..Said' where nothing that the law and all that it calls make is longer than what came in: it says more and counts as full. Else prove '..UptoSaid'. A law counts once. -/
mutual
def uptoBulk {H : Type} : DataW H → Nat
  | .lit (.string bytes) => bytes.length + 1
  | .lit _ => 1
  | .nil => 1
  | .ptr d => uptoBulk d + 1
  | .slice elems spare => uptoBulkAll elems + uptoBulkAll spare + 1
  | .agg parts => uptoBulkAll parts + 1
  | .iface _ d => uptoBulk d + 1
  | .map entries => uptoBulkEntries entries + 1
  | .held _ => 1
def uptoBulkAll {H : Type} : List (DataW H) → Nat
  | [] => 0
  | d :: r => uptoBulk d + uptoBulkAll r
def uptoBulkEntries {H : Type} : List (Lit × DataW H) → Nat
  | [] => 0
  | x :: r => uptoBulkEntry x + uptoBulkEntries r
def uptoBulkEntry {H : Type} : Lit × DataW H → Nat
  | (.string bytes, d) => bytes.length + uptoBulk d + 1
  | (_, d) => uptoBulk d + 1
 end
def uptoSmall : (H : Type) → List (DataW H) → Bool := fun _ ds => decide (uptoBulkAll ds ≤ 1048576)
def OpenSpec.upto (s : _root_.Go.ChangeSpec) : _root_.Go.OpenSpec := { _root_.Go.OpenSpec.ofChange s with cond := some uptoSmall }

/-- 'laws.FnExactValidVerb', WHERE WHAT IT READS IS OF BULK AT MOST 1048576: true; the input reads as it did. -/
def fnExactValidVerbUptoRow : OpenClaim := { program := "ytkcdemjflbnhbaa", sum := "8da49185a21e41602d4be08b511f11cb628f49fbc017ae6cdee48af7a8feae51", func := "loop.example/g00899/laws.FnExactValidVerb", spec := "fnExactValidVerb", apart := false, narrowed := true }
def FnExactValidVerbUptoSaid : Prop := fnExactValidVerbUptoRow.holds Try.pinned (OpenSpec.upto fnExactValidVerbSpec)

/-- 'laws.FnExactFirstBroken', WHERE WHAT IT READS IS OF BULK AT MOST 1048576: true; the input reads as it did. -/
def fnExactFirstBrokenUptoRow : OpenClaim := { program := "ytkcdemjflbnhbaa", sum := "8da49185a21e41602d4be08b511f11cb628f49fbc017ae6cdee48af7a8feae51", func := "loop.example/g00899/laws.FnExactFirstBroken", spec := "fnExactFirstBroken", apart := false, narrowed := true }
def FnExactFirstBrokenUptoSaid : Prop := fnExactFirstBrokenUptoRow.holds Try.pinned (OpenSpec.upto fnExactFirstBrokenSpec)

/-- 'laws.FnExactValidLedger', WHERE WHAT IT READS IS OF BULK AT MOST 1048576: true; the input reads as it did. -/
def fnExactValidLedgerUptoRow : OpenClaim := { program := "ytkcdemjflbnhbaa", sum := "8da49185a21e41602d4be08b511f11cb628f49fbc017ae6cdee48af7a8feae51", func := "loop.example/g00899/laws.FnExactValidLedger", spec := "fnExactValidLedger", apart := false, narrowed := true }
def FnExactValidLedgerUptoSaid : Prop := fnExactValidLedgerUptoRow.holds Try.pinned (OpenSpec.upto fnExactValidLedgerSpec)

/-- 'laws.FnExactLedgerFits', WHERE WHAT IT READS IS OF BULK AT MOST 1048576: true; the input reads as it did. -/
def fnExactLedgerFitsUptoRow : OpenClaim := { program := "ytkcdemjflbnhbaa", sum := "8da49185a21e41602d4be08b511f11cb628f49fbc017ae6cdee48af7a8feae51", func := "loop.example/g00899/laws.FnExactLedgerFits", spec := "fnExactLedgerFits", apart := false, narrowed := true }
def FnExactLedgerFitsUptoSaid : Prop := fnExactLedgerFitsUptoRow.holds Try.pinned (OpenSpec.upto fnExactLedgerFitsSpec)

/-- 'laws.FnExactFindStates', WHERE WHAT IT READS IS OF BULK AT MOST 1048576: true; the input reads as it did. -/
def fnExactFindStatesUptoRow : OpenClaim := { program := "ytkcdemjflbnhbaa", sum := "8da49185a21e41602d4be08b511f11cb628f49fbc017ae6cdee48af7a8feae51", func := "loop.example/g00899/laws.FnExactFindStates", spec := "fnExactFindStates", apart := false, narrowed := true }
def FnExactFindStatesUptoSaid : Prop := fnExactFindStatesUptoRow.holds Try.pinned (OpenSpec.upto fnExactFindStatesSpec)

/-- 'laws.FnExactAppendEntry', WHERE WHAT IT READS IS OF BULK AT MOST 1048576: true; the input reads as it did. -/
def fnExactAppendEntryUptoRow : OpenClaim := { program := "ytkcdemjflbnhbaa", sum := "8da49185a21e41602d4be08b511f11cb628f49fbc017ae6cdee48af7a8feae51", func := "loop.example/g00899/laws.FnExactAppendEntry", spec := "fnExactAppendEntry", apart := false, narrowed := true }
def FnExactAppendEntryUptoSaid : Prop := fnExactAppendEntryUptoRow.holds Try.pinned (OpenSpec.upto fnExactAppendEntrySpec)

/-- 'laws.FnExactJoinLedgers', WHERE WHAT IT READS IS OF BULK AT MOST 1048576: true; the input reads as it did. -/
def fnExactJoinLedgersUptoRow : OpenClaim := { program := "ytkcdemjflbnhbaa", sum := "8da49185a21e41602d4be08b511f11cb628f49fbc017ae6cdee48af7a8feae51", func := "loop.example/g00899/laws.FnExactJoinLedgers", spec := "fnExactJoinLedgers", apart := false, narrowed := true }
def FnExactJoinLedgersUptoSaid : Prop := fnExactJoinLedgersUptoRow.holds Try.pinned (OpenSpec.upto fnExactJoinLedgersSpec)

/-- 'laws.FnJoined', WHERE WHAT IT READS IS OF BULK AT MOST 1048576: true; the input reads as it did. -/
def fnJoinedUptoRow : OpenClaim := { program := "ytkcdemjflbnhbaa", sum := "8da49185a21e41602d4be08b511f11cb628f49fbc017ae6cdee48af7a8feae51", func := "loop.example/g00899/laws.FnJoined", spec := "fnJoined", apart := false, narrowed := true }
def FnJoinedUptoSaid : Prop := fnJoinedUptoRow.holds Try.pinned (OpenSpec.upto fnJoinedSpec)

end Rows
end Go.Proofs.Ytkcdemjflbnhbaa
