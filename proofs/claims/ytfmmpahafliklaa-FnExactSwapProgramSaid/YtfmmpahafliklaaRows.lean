/-
  No cell of these rows narrows 'for every input' (looked for: loops, veiled, ifaces, maps, wideKeys, modest, calm, conditions, laid).
  DERIVED. THE GIVEN ROWS OF THIS SEAT. 12 by the template 'for every input the law returns true; each argument reads behind the call as it read before'; 0 by the template 'total and deterministic' (their statements: YtfmmpahafliklaaTotals.lean).
  GIVEN WITH THE SEED: the statements are not yours to turn. If you find one false, say at which input.
  Laid BY PROGRAM, IN A SANDBOX (cutbox-rows.mjs): the forced cells as the released guide's own fill.sh prints them over the translation fd8dafa63758ecd9… (all of the seat's roots in one cut). By AI agents, Wed Nov 11 2026. No macro, syntax, notation, axiom, sorry.
-/
import Derived.Test.YtfmmpahafliklaaChecked
import GoSem.Claim
import GoSem.ClaimJoined
import GoSem.ClaimMapViews
import Derived.JoinedTies
import Derived.KernelRfl
namespace Go.Proofs.Ytfmmpahafliklaa
/- THE CELL 'sum', in the pinned program and in every row, IS THE sha256 OF THE DUMP (.gsa) THAT YtfmmpahafliklaaProg.lean LOADS. Nothing in Lean hashes anything: it is a label: what it is worth is what the hold of that sum in a sandbox is worth. -/
noncomputable def Try.pinned : Pinned := { name := "ytfmmpahafliklaa", sum := "fd8dafa63758ecd98f44bc5780b723402a7e78957dc33c07a4e156397d3affc2", checked := Try.checked }
namespace Rows
def none {H : Type} : Left H := { results := [], args := [] }

/-- 'laws.FnExactExprValid': WHATEVER THE INPUT: true; the input reads as it did. -/
def fnExactExprValidSpec : ChangeSpec := { name := "fnExactExprValid", fn := fun _ => fun
  | [d] => { results := [.lit (.bool true)], args := [d] }
  | _ => none }
def fnExactExprValidRow : OpenClaim := { program := "ytfmmpahafliklaa", sum := "fd8dafa63758ecd98f44bc5780b723402a7e78957dc33c07a4e156397d3affc2", func := "loop.example/productprograms/laws.FnExactExprValid", spec := "fnExactExprValid", recurses := true, apart := false }
def FnExactExprValidSaid : Prop := fnExactExprValidRow.holds Try.pinned (OpenSpec.ofChange fnExactExprValidSpec)

/-- ITS FALSE NEIGHBOUR: 'it returns false'. Refute it at one input. -/
def fnExactExprValidWrong : ChangeSpec := { name := "fnExactExprValid", fn := fun _ => fun
  | [d] => { results := [.lit (.bool false)], args := [d] }
  | _ => none }
def FnExactExprValidWrongFalsely : Prop := fnExactExprValidRow.holds Try.pinned (OpenSpec.ofChange fnExactExprValidWrong)

/-- 'laws.FnExactTestValid': WHATEVER THE INPUT: true; the input reads as it did. -/
def fnExactTestValidSpec : ChangeSpec := { name := "fnExactTestValid", fn := fun _ => fun
  | [d] => { results := [.lit (.bool true)], args := [d] }
  | _ => none }
def fnExactTestValidRow : OpenClaim := { program := "ytfmmpahafliklaa", sum := "fd8dafa63758ecd98f44bc5780b723402a7e78957dc33c07a4e156397d3affc2", func := "loop.example/productprograms/laws.FnExactTestValid", spec := "fnExactTestValid", recurses := true, apart := false }
def FnExactTestValidSaid : Prop := fnExactTestValidRow.holds Try.pinned (OpenSpec.ofChange fnExactTestValidSpec)

/-- ITS FALSE NEIGHBOUR: 'it returns false'. Refute it at one input. -/
def fnExactTestValidWrong : ChangeSpec := { name := "fnExactTestValid", fn := fun _ => fun
  | [d] => { results := [.lit (.bool false)], args := [d] }
  | _ => none }
def FnExactTestValidWrongFalsely : Prop := fnExactTestValidRow.holds Try.pinned (OpenSpec.ofChange fnExactTestValidWrong)

/-- 'laws.FnExactWideValid': WHATEVER THE INPUT: true; the input reads as it did. -/
def fnExactWideValidSpec : ChangeSpec := { name := "fnExactWideValid", fn := fun _ => fun
  | [d] => { results := [.lit (.bool true)], args := [d] }
  | _ => none }
def fnExactWideValidRow : OpenClaim := { program := "ytfmmpahafliklaa", sum := "fd8dafa63758ecd98f44bc5780b723402a7e78957dc33c07a4e156397d3affc2", func := "loop.example/productprograms/laws.FnExactWideValid", spec := "fnExactWideValid", recurses := true, apart := false }
def FnExactWideValidSaid : Prop := fnExactWideValidRow.holds Try.pinned (OpenSpec.ofChange fnExactWideValidSpec)

/-- ITS FALSE NEIGHBOUR: 'it returns false'. Refute it at one input. -/
def fnExactWideValidWrong : ChangeSpec := { name := "fnExactWideValid", fn := fun _ => fun
  | [d] => { results := [.lit (.bool false)], args := [d] }
  | _ => none }
def FnExactWideValidWrongFalsely : Prop := fnExactWideValidRow.holds Try.pinned (OpenSpec.ofChange fnExactWideValidWrong)

/-- 'laws.FnExactProgramValid': WHATEVER THE INPUT: true; the input reads as it did. -/
def fnExactProgramValidSpec : ChangeSpec := { name := "fnExactProgramValid", fn := fun _ => fun
  | [d] => { results := [.lit (.bool true)], args := [d] }
  | _ => none }
def fnExactProgramValidRow : OpenClaim := { program := "ytfmmpahafliklaa", sum := "fd8dafa63758ecd98f44bc5780b723402a7e78957dc33c07a4e156397d3affc2", func := "loop.example/productprograms/laws.FnExactProgramValid", spec := "fnExactProgramValid", recurses := true, apart := false }
def FnExactProgramValidSaid : Prop := fnExactProgramValidRow.holds Try.pinned (OpenSpec.ofChange fnExactProgramValidSpec)

/-- ITS FALSE NEIGHBOUR: 'it returns false'. Refute it at one input. -/
def fnExactProgramValidWrong : ChangeSpec := { name := "fnExactProgramValid", fn := fun _ => fun
  | [d] => { results := [.lit (.bool false)], args := [d] }
  | _ => none }
def FnExactProgramValidWrongFalsely : Prop := fnExactProgramValidRow.holds Try.pinned (OpenSpec.ofChange fnExactProgramValidWrong)

/-- 'laws.FnExactWideProgramValid': WHATEVER THE INPUT: true; the input reads as it did. -/
def fnExactWideProgramValidSpec : ChangeSpec := { name := "fnExactWideProgramValid", fn := fun _ => fun
  | [d] => { results := [.lit (.bool true)], args := [d] }
  | _ => none }
def fnExactWideProgramValidRow : OpenClaim := { program := "ytfmmpahafliklaa", sum := "fd8dafa63758ecd98f44bc5780b723402a7e78957dc33c07a4e156397d3affc2", func := "loop.example/productprograms/laws.FnExactWideProgramValid", spec := "fnExactWideProgramValid", recurses := true, apart := false }
def FnExactWideProgramValidSaid : Prop := fnExactWideProgramValidRow.holds Try.pinned (OpenSpec.ofChange fnExactWideProgramValidSpec)

/-- ITS FALSE NEIGHBOUR: 'it returns false'. Refute it at one input. -/
def fnExactWideProgramValidWrong : ChangeSpec := { name := "fnExactWideProgramValid", fn := fun _ => fun
  | [d] => { results := [.lit (.bool false)], args := [d] }
  | _ => none }
def FnExactWideProgramValidWrongFalsely : Prop := fnExactWideProgramValidRow.holds Try.pinned (OpenSpec.ofChange fnExactWideProgramValidWrong)

/-- 'laws.FnExactShowExpr': WHATEVER THE INPUT: true; the input reads as it did. -/
def fnExactShowExprSpec : ChangeSpec := { name := "fnExactShowExpr", fn := fun _ => fun
  | [d] => { results := [.lit (.bool true)], args := [d] }
  | _ => none }
def fnExactShowExprRow : OpenClaim := { program := "ytfmmpahafliklaa", sum := "fd8dafa63758ecd98f44bc5780b723402a7e78957dc33c07a4e156397d3affc2", func := "loop.example/productprograms/laws.FnExactShowExpr", spec := "fnExactShowExpr", recurses := true, apart := false }
def FnExactShowExprSaid : Prop := fnExactShowExprRow.holds Try.pinned (OpenSpec.ofChange fnExactShowExprSpec)

/-- ITS FALSE NEIGHBOUR: 'it returns false'. Refute it at one input. -/
def fnExactShowExprWrong : ChangeSpec := { name := "fnExactShowExpr", fn := fun _ => fun
  | [d] => { results := [.lit (.bool false)], args := [d] }
  | _ => none }
def FnExactShowExprWrongFalsely : Prop := fnExactShowExprRow.holds Try.pinned (OpenSpec.ofChange fnExactShowExprWrong)

/-- 'laws.FnExactShowTest': WHATEVER THE INPUT: true; the input reads as it did. -/
def fnExactShowTestSpec : ChangeSpec := { name := "fnExactShowTest", fn := fun _ => fun
  | [d] => { results := [.lit (.bool true)], args := [d] }
  | _ => none }
def fnExactShowTestRow : OpenClaim := { program := "ytfmmpahafliklaa", sum := "fd8dafa63758ecd98f44bc5780b723402a7e78957dc33c07a4e156397d3affc2", func := "loop.example/productprograms/laws.FnExactShowTest", spec := "fnExactShowTest", recurses := true, apart := false }
def FnExactShowTestSaid : Prop := fnExactShowTestRow.holds Try.pinned (OpenSpec.ofChange fnExactShowTestSpec)

/-- ITS FALSE NEIGHBOUR: 'it returns false'. Refute it at one input. -/
def fnExactShowTestWrong : ChangeSpec := { name := "fnExactShowTest", fn := fun _ => fun
  | [d] => { results := [.lit (.bool false)], args := [d] }
  | _ => none }
def FnExactShowTestWrongFalsely : Prop := fnExactShowTestRow.holds Try.pinned (OpenSpec.ofChange fnExactShowTestWrong)

/-- 'laws.FnExactJoinPrograms': WHATEVER THE INPUT: true; the input reads as it did. -/
def fnExactJoinProgramsSpec : ChangeSpec := { name := "fnExactJoinPrograms", fn := fun _ => fun
  | [d1, d2] => { results := [.lit (.bool true)], args := [d1, d2] }
  | _ => none }
def fnExactJoinProgramsRow : OpenClaim := { program := "ytfmmpahafliklaa", sum := "fd8dafa63758ecd98f44bc5780b723402a7e78957dc33c07a4e156397d3affc2", func := "loop.example/productprograms/laws.FnExactJoinPrograms", spec := "fnExactJoinPrograms", recurses := true, apart := false }
def FnExactJoinProgramsSaid : Prop := fnExactJoinProgramsRow.holds Try.pinned (OpenSpec.ofChange fnExactJoinProgramsSpec)

/-- ITS FALSE NEIGHBOUR: 'it returns false'. Refute it at one input. -/
def fnExactJoinProgramsWrong : ChangeSpec := { name := "fnExactJoinPrograms", fn := fun _ => fun
  | [d1, d2] => { results := [.lit (.bool false)], args := [d1, d2] }
  | _ => none }
def FnExactJoinProgramsWrongFalsely : Prop := fnExactJoinProgramsRow.holds Try.pinned (OpenSpec.ofChange fnExactJoinProgramsWrong)

/-- 'laws.FnExactEvalExpr': WHATEVER THE INPUT: true; the input reads as it did. -/
def fnExactEvalExprSpec : ChangeSpec := { name := "fnExactEvalExpr", fn := fun _ => fun
  | [d1, d2] => { results := [.lit (.bool true)], args := [d1, d2] }
  | _ => none }
def fnExactEvalExprRow : OpenClaim := { program := "ytfmmpahafliklaa", sum := "fd8dafa63758ecd98f44bc5780b723402a7e78957dc33c07a4e156397d3affc2", func := "loop.example/productprograms/laws.FnExactEvalExpr", spec := "fnExactEvalExpr", unfollowed := true, recurses := true, apart := false }
def FnExactEvalExprSaid : Prop := fnExactEvalExprRow.holds Try.pinned (OpenSpec.ofChange fnExactEvalExprSpec)

/-- ITS FALSE NEIGHBOUR: 'it returns false'. Refute it at one input. -/
def fnExactEvalExprWrong : ChangeSpec := { name := "fnExactEvalExpr", fn := fun _ => fun
  | [d1, d2] => { results := [.lit (.bool false)], args := [d1, d2] }
  | _ => none }
def FnExactEvalExprWrongFalsely : Prop := fnExactEvalExprRow.holds Try.pinned (OpenSpec.ofChange fnExactEvalExprWrong)

/-- 'laws.FnExactHeadOf': WHATEVER THE INPUT: true; the input reads as it did. -/
def fnExactHeadOfSpec : ChangeSpec := { name := "fnExactHeadOf", fn := fun _ => fun
  | [d] => { results := [.lit (.bool true)], args := [d] }
  | _ => none }
def fnExactHeadOfRow : OpenClaim := { program := "ytfmmpahafliklaa", sum := "fd8dafa63758ecd98f44bc5780b723402a7e78957dc33c07a4e156397d3affc2", func := "loop.example/productprograms/laws.FnExactHeadOf", spec := "fnExactHeadOf", recurses := true, apart := false }
def FnExactHeadOfSaid : Prop := fnExactHeadOfRow.holds Try.pinned (OpenSpec.ofChange fnExactHeadOfSpec)

/-- ITS FALSE NEIGHBOUR: 'it returns false'. Refute it at one input. -/
def fnExactHeadOfWrong : ChangeSpec := { name := "fnExactHeadOf", fn := fun _ => fun
  | [d] => { results := [.lit (.bool false)], args := [d] }
  | _ => none }
def FnExactHeadOfWrongFalsely : Prop := fnExactHeadOfRow.holds Try.pinned (OpenSpec.ofChange fnExactHeadOfWrong)

/-- 'laws.FnExactSwapProgram': WHATEVER THE INPUT: true; the input reads as it did. -/
def fnExactSwapProgramSpec : ChangeSpec := { name := "fnExactSwapProgram", fn := fun _ => fun
  | [d1, d2, d3] => { results := [.lit (.bool true)], args := [d1, d2, d3] }
  | _ => none }
def fnExactSwapProgramRow : OpenClaim := { program := "ytfmmpahafliklaa", sum := "fd8dafa63758ecd98f44bc5780b723402a7e78957dc33c07a4e156397d3affc2", func := "loop.example/productprograms/laws.FnExactSwapProgram", spec := "fnExactSwapProgram", recurses := true, apart := false }
def FnExactSwapProgramSaid : Prop := fnExactSwapProgramRow.holds Try.pinned (OpenSpec.ofChange fnExactSwapProgramSpec)

/-- ITS FALSE NEIGHBOUR: 'it returns false'. Refute it at one input. -/
def fnExactSwapProgramWrong : ChangeSpec := { name := "fnExactSwapProgram", fn := fun _ => fun
  | [d1, d2, d3] => { results := [.lit (.bool false)], args := [d1, d2, d3] }
  | _ => none }
def FnExactSwapProgramWrongFalsely : Prop := fnExactSwapProgramRow.holds Try.pinned (OpenSpec.ofChange fnExactSwapProgramWrong)

/-- 'laws.FnExactFoldExpr': WHATEVER THE INPUT: true; the input reads as it did. -/
def fnExactFoldExprSpec : ChangeSpec := { name := "fnExactFoldExpr", fn := fun _ => fun
  | [d] => { results := [.lit (.bool true)], args := [d] }
  | _ => none }
def fnExactFoldExprRow : OpenClaim := { program := "ytfmmpahafliklaa", sum := "fd8dafa63758ecd98f44bc5780b723402a7e78957dc33c07a4e156397d3affc2", func := "loop.example/productprograms/laws.FnExactFoldExpr", spec := "fnExactFoldExpr", unfollowed := true, recurses := true, apart := false }
def FnExactFoldExprSaid : Prop := fnExactFoldExprRow.holds Try.pinned (OpenSpec.ofChange fnExactFoldExprSpec)

/-- ITS FALSE NEIGHBOUR: 'it returns false'. Refute it at one input. -/
def fnExactFoldExprWrong : ChangeSpec := { name := "fnExactFoldExpr", fn := fun _ => fun
  | [d] => { results := [.lit (.bool false)], args := [d] }
  | _ => none }
def FnExactFoldExprWrongFalsely : Prop := fnExactFoldExprRow.holds Try.pinned (OpenSpec.ofChange fnExactFoldExprWrong)

/- THE SECOND FORM. 'bulk': how many values and letters a reading holds, each counted each time it is reached (what is shared counts as often as it is met; a slice's spare places count too). A statement '..UptoSaid' is the law's where the arguments, and the package variables that the reading takes, are together of bulk at most 1048576: NARROWER than '..Said'. Prove '..Said' where nothing that the law and all that it calls make is longer than what came in: it says more and counts as full. Else prove '..UptoSaid'. A law counts once. -/
mutual
def uptoBulk {H : Type} : DataW H → Nat
  | .lit (.string bytes) => bytes.length + 1
  | .lit _ => 1
  | .nil => 1
  | .ptr d => uptoBulk d + 1
  | .slice elems spare => uptoBulkAll elems + uptoBulkAll spare + 1
  | .agg parts => uptoBulkAll parts + 1
  | .iface _ d => uptoBulk d + 1
  | .map entries => uptoBulkEntries entries + 1
  | .held _ => 1
def uptoBulkAll {H : Type} : List (DataW H) → Nat
  | [] => 0
  | d :: r => uptoBulk d + uptoBulkAll r
def uptoBulkEntries {H : Type} : List (Lit × DataW H) → Nat
  | [] => 0
  | x :: r => uptoBulkEntry x + uptoBulkEntries r
def uptoBulkEntry {H : Type} : Lit × DataW H → Nat
  | (.string bytes, d) => bytes.length + uptoBulk d + 1
  | (_, d) => uptoBulk d + 1
 end
def uptoSmall : (H : Type) → List (DataW H) → Bool := fun _ ds => decide (uptoBulkAll ds ≤ 1048576)
def OpenSpec.upto (s : _root_.Go.ChangeSpec) : _root_.Go.OpenSpec := { _root_.Go.OpenSpec.ofChange s with cond := some uptoSmall }

/-- 'laws.FnExactExprValid', WHERE WHAT IT READS IS OF BULK AT MOST 1048576: true; the input reads as it did. -/
def fnExactExprValidUptoRow : OpenClaim := { program := "ytfmmpahafliklaa", sum := "fd8dafa63758ecd98f44bc5780b723402a7e78957dc33c07a4e156397d3affc2", func := "loop.example/productprograms/laws.FnExactExprValid", spec := "fnExactExprValid", recurses := true, apart := false, narrowed := true }
def FnExactExprValidUptoSaid : Prop := fnExactExprValidUptoRow.holds Try.pinned (OpenSpec.upto fnExactExprValidSpec)

/-- 'laws.FnExactTestValid', WHERE WHAT IT READS IS OF BULK AT MOST 1048576: true; the input reads as it did. -/
def fnExactTestValidUptoRow : OpenClaim := { program := "ytfmmpahafliklaa", sum := "fd8dafa63758ecd98f44bc5780b723402a7e78957dc33c07a4e156397d3affc2", func := "loop.example/productprograms/laws.FnExactTestValid", spec := "fnExactTestValid", recurses := true, apart := false, narrowed := true }
def FnExactTestValidUptoSaid : Prop := fnExactTestValidUptoRow.holds Try.pinned (OpenSpec.upto fnExactTestValidSpec)

/-- 'laws.FnExactWideValid', WHERE WHAT IT READS IS OF BULK AT MOST 1048576: true; the input reads as it did. -/
def fnExactWideValidUptoRow : OpenClaim := { program := "ytfmmpahafliklaa", sum := "fd8dafa63758ecd98f44bc5780b723402a7e78957dc33c07a4e156397d3affc2", func := "loop.example/productprograms/laws.FnExactWideValid", spec := "fnExactWideValid", recurses := true, apart := false, narrowed := true }
def FnExactWideValidUptoSaid : Prop := fnExactWideValidUptoRow.holds Try.pinned (OpenSpec.upto fnExactWideValidSpec)

/-- 'laws.FnExactProgramValid', WHERE WHAT IT READS IS OF BULK AT MOST 1048576: true; the input reads as it did. -/
def fnExactProgramValidUptoRow : OpenClaim := { program := "ytfmmpahafliklaa", sum := "fd8dafa63758ecd98f44bc5780b723402a7e78957dc33c07a4e156397d3affc2", func := "loop.example/productprograms/laws.FnExactProgramValid", spec := "fnExactProgramValid", recurses := true, apart := false, narrowed := true }
def FnExactProgramValidUptoSaid : Prop := fnExactProgramValidUptoRow.holds Try.pinned (OpenSpec.upto fnExactProgramValidSpec)

/-- 'laws.FnExactWideProgramValid', WHERE WHAT IT READS IS OF BULK AT MOST 1048576: true; the input reads as it did. -/
def fnExactWideProgramValidUptoRow : OpenClaim := { program := "ytfmmpahafliklaa", sum := "fd8dafa63758ecd98f44bc5780b723402a7e78957dc33c07a4e156397d3affc2", func := "loop.example/productprograms/laws.FnExactWideProgramValid", spec := "fnExactWideProgramValid", recurses := true, apart := false, narrowed := true }
def FnExactWideProgramValidUptoSaid : Prop := fnExactWideProgramValidUptoRow.holds Try.pinned (OpenSpec.upto fnExactWideProgramValidSpec)

/-- 'laws.FnExactShowExpr', WHERE WHAT IT READS IS OF BULK AT MOST 1048576: true; the input reads as it did. -/
def fnExactShowExprUptoRow : OpenClaim := { program := "ytfmmpahafliklaa", sum := "fd8dafa63758ecd98f44bc5780b723402a7e78957dc33c07a4e156397d3affc2", func := "loop.example/productprograms/laws.FnExactShowExpr", spec := "fnExactShowExpr", recurses := true, apart := false, narrowed := true }
def FnExactShowExprUptoSaid : Prop := fnExactShowExprUptoRow.holds Try.pinned (OpenSpec.upto fnExactShowExprSpec)

/-- 'laws.FnExactShowTest', WHERE WHAT IT READS IS OF BULK AT MOST 1048576: true; the input reads as it did. -/
def fnExactShowTestUptoRow : OpenClaim := { program := "ytfmmpahafliklaa", sum := "fd8dafa63758ecd98f44bc5780b723402a7e78957dc33c07a4e156397d3affc2", func := "loop.example/productprograms/laws.FnExactShowTest", spec := "fnExactShowTest", recurses := true, apart := false, narrowed := true }
def FnExactShowTestUptoSaid : Prop := fnExactShowTestUptoRow.holds Try.pinned (OpenSpec.upto fnExactShowTestSpec)

/-- 'laws.FnExactJoinPrograms', WHERE WHAT IT READS IS OF BULK AT MOST 1048576: true; the input reads as it did. -/
def fnExactJoinProgramsUptoRow : OpenClaim := { program := "ytfmmpahafliklaa", sum := "fd8dafa63758ecd98f44bc5780b723402a7e78957dc33c07a4e156397d3affc2", func := "loop.example/productprograms/laws.FnExactJoinPrograms", spec := "fnExactJoinPrograms", recurses := true, apart := false, narrowed := true }
def FnExactJoinProgramsUptoSaid : Prop := fnExactJoinProgramsUptoRow.holds Try.pinned (OpenSpec.upto fnExactJoinProgramsSpec)

/-- 'laws.FnExactEvalExpr', WHERE WHAT IT READS IS OF BULK AT MOST 1048576: true; the input reads as it did. -/
def fnExactEvalExprUptoRow : OpenClaim := { program := "ytfmmpahafliklaa", sum := "fd8dafa63758ecd98f44bc5780b723402a7e78957dc33c07a4e156397d3affc2", func := "loop.example/productprograms/laws.FnExactEvalExpr", spec := "fnExactEvalExpr", unfollowed := true, recurses := true, apart := false, narrowed := true }
def FnExactEvalExprUptoSaid : Prop := fnExactEvalExprUptoRow.holds Try.pinned (OpenSpec.upto fnExactEvalExprSpec)

/-- 'laws.FnExactHeadOf', WHERE WHAT IT READS IS OF BULK AT MOST 1048576: true; the input reads as it did. -/
def fnExactHeadOfUptoRow : OpenClaim := { program := "ytfmmpahafliklaa", sum := "fd8dafa63758ecd98f44bc5780b723402a7e78957dc33c07a4e156397d3affc2", func := "loop.example/productprograms/laws.FnExactHeadOf", spec := "fnExactHeadOf", recurses := true, apart := false, narrowed := true }
def FnExactHeadOfUptoSaid : Prop := fnExactHeadOfUptoRow.holds Try.pinned (OpenSpec.upto fnExactHeadOfSpec)

/-- 'laws.FnExactSwapProgram', WHERE WHAT IT READS IS OF BULK AT MOST 1048576: true; the input reads as it did. -/
def fnExactSwapProgramUptoRow : OpenClaim := { program := "ytfmmpahafliklaa", sum := "fd8dafa63758ecd98f44bc5780b723402a7e78957dc33c07a4e156397d3affc2", func := "loop.example/productprograms/laws.FnExactSwapProgram", spec := "fnExactSwapProgram", recurses := true, apart := false, narrowed := true }
def FnExactSwapProgramUptoSaid : Prop := fnExactSwapProgramUptoRow.holds Try.pinned (OpenSpec.upto fnExactSwapProgramSpec)

/-- 'laws.FnExactFoldExpr', WHERE WHAT IT READS IS OF BULK AT MOST 1048576: true; the input reads as it did. -/
def fnExactFoldExprUptoRow : OpenClaim := { program := "ytfmmpahafliklaa", sum := "fd8dafa63758ecd98f44bc5780b723402a7e78957dc33c07a4e156397d3affc2", func := "loop.example/productprograms/laws.FnExactFoldExpr", spec := "fnExactFoldExpr", unfollowed := true, recurses := true, apart := false, narrowed := true }
def FnExactFoldExprUptoSaid : Prop := fnExactFoldExprUptoRow.holds Try.pinned (OpenSpec.upto fnExactFoldExprSpec)

end Rows
end Go.Proofs.Ytfmmpahafliklaa
