/-
  No cell of these rows narrows 'for every input' (looked for: loops, veiled, ifaces, maps, wideKeys, modest, calm, conditions, laid).
  DERIVED. THE GIVEN ROWS OF THIS SEAT. 12 by the template 'for every input the law returns true; each argument reads behind the call as it read before'; 0 by the template 'total and deterministic' (their statements: YtialodkhckaklaaTotals.lean).
  GIVEN WITH THE SEED: the statements are not yours to turn. If you find one false, say at which input.
  Laid BY PROGRAM, IN A SANDBOX (cutbox-rows.mjs): the forced cells as the released guide's own fill.sh prints them over the translation d725d0ab1f685f9c… (all of the seat's roots in one cut). By AI agents, Wed Nov 11 2026. No macro, syntax, notation, axiom, sorry.
-/
import Derived.Test.YtialodkhckaklaaChecked
import GoSem.Claim
import GoSem.ClaimJoined
import GoSem.ClaimMapViews
import Derived.JoinedTies
import Derived.KernelRfl
namespace Go.Proofs.Ytialodkhckaklaa
/- THE CELL 'sum', in the pinned program and in every row, IS THE sha256 OF THE DUMP (.gsa) THAT YtialodkhckaklaaProg.lean LOADS. Nothing in Lean hashes anything: it is a label: what it is worth is what the hold of that sum in a sandbox is worth. -/
noncomputable def Try.pinned : Pinned := { name := "ytialodkhckaklaa", sum := "d725d0ab1f685f9cb9b46f35a0846fd51b176b99d6bec8eefe883e924997f52b", checked := Try.checked }
namespace Rows
def none {H : Type} : Left H := { results := [], args := [] }

/-- 'laws.FnExactDepthOf': WHATEVER THE INPUT: true; the input reads as it did. -/
def fnExactDepthOfSpec : ChangeSpec := { name := "fnExactDepthOf", fn := fun _ => fun
  | [d] => { results := [.lit (.bool true)], args := [d] }
  | _ => none }
def fnExactDepthOfRow : OpenClaim := { program := "ytialodkhckaklaa", sum := "d725d0ab1f685f9cb9b46f35a0846fd51b176b99d6bec8eefe883e924997f52b", func := "loop.example/productprograms/laws.FnExactDepthOf", spec := "fnExactDepthOf", recurses := true, apart := false }
def FnExactDepthOfSaid : Prop := fnExactDepthOfRow.holds Try.pinned (OpenSpec.ofChange fnExactDepthOfSpec)

/-- ITS FALSE NEIGHBOUR: 'it returns false'. Refute it at one input. -/
def fnExactDepthOfWrong : ChangeSpec := { name := "fnExactDepthOf", fn := fun _ => fun
  | [d] => { results := [.lit (.bool false)], args := [d] }
  | _ => none }
def FnExactDepthOfWrongFalsely : Prop := fnExactDepthOfRow.holds Try.pinned (OpenSpec.ofChange fnExactDepthOfWrong)

/-- 'laws.FnExactSizeOf': WHATEVER THE INPUT: true; the input reads as it did. -/
def fnExactSizeOfSpec : ChangeSpec := { name := "fnExactSizeOf", fn := fun _ => fun
  | [d] => { results := [.lit (.bool true)], args := [d] }
  | _ => none }
def fnExactSizeOfRow : OpenClaim := { program := "ytialodkhckaklaa", sum := "d725d0ab1f685f9cb9b46f35a0846fd51b176b99d6bec8eefe883e924997f52b", func := "loop.example/productprograms/laws.FnExactSizeOf", spec := "fnExactSizeOf", unfollowed := true, recurses := true, apart := false }
def FnExactSizeOfSaid : Prop := fnExactSizeOfRow.holds Try.pinned (OpenSpec.ofChange fnExactSizeOfSpec)

/-- ITS FALSE NEIGHBOUR: 'it returns false'. Refute it at one input. -/
def fnExactSizeOfWrong : ChangeSpec := { name := "fnExactSizeOf", fn := fun _ => fun
  | [d] => { results := [.lit (.bool false)], args := [d] }
  | _ => none }
def FnExactSizeOfWrongFalsely : Prop := fnExactSizeOfRow.holds Try.pinned (OpenSpec.ofChange fnExactSizeOfWrong)

/-- 'laws.FnExactIsPlain': WHATEVER THE INPUT: true; the input reads as it did. -/
def fnExactIsPlainSpec : ChangeSpec := { name := "fnExactIsPlain", fn := fun _ => fun
  | [d] => { results := [.lit (.bool true)], args := [d] }
  | _ => none }
def fnExactIsPlainRow : OpenClaim := { program := "ytialodkhckaklaa", sum := "d725d0ab1f685f9cb9b46f35a0846fd51b176b99d6bec8eefe883e924997f52b", func := "loop.example/productprograms/laws.FnExactIsPlain", spec := "fnExactIsPlain", inPlace := ["internal/bytealg.IndexByteString"], unfollowed := true, recurses := true, apart := false }
def FnExactIsPlainSaid : Prop := fnExactIsPlainRow.holds Try.pinned (OpenSpec.ofChange fnExactIsPlainSpec)

/-- ITS FALSE NEIGHBOUR: 'it returns false'. Refute it at one input. -/
def fnExactIsPlainWrong : ChangeSpec := { name := "fnExactIsPlain", fn := fun _ => fun
  | [d] => { results := [.lit (.bool false)], args := [d] }
  | _ => none }
def FnExactIsPlainWrongFalsely : Prop := fnExactIsPlainRow.holds Try.pinned (OpenSpec.ofChange fnExactIsPlainWrong)

/-- 'laws.FnExactLoopCount': WHATEVER THE INPUT: true; the input reads as it did. -/
def fnExactLoopCountSpec : ChangeSpec := { name := "fnExactLoopCount", fn := fun _ => fun
  | [d] => { results := [.lit (.bool true)], args := [d] }
  | _ => none }
def fnExactLoopCountRow : OpenClaim := { program := "ytialodkhckaklaa", sum := "d725d0ab1f685f9cb9b46f35a0846fd51b176b99d6bec8eefe883e924997f52b", func := "loop.example/productprograms/laws.FnExactLoopCount", spec := "fnExactLoopCount", inPlace := ["internal/bytealg.IndexByteString"], unfollowed := true, recurses := true, apart := false }
def FnExactLoopCountSaid : Prop := fnExactLoopCountRow.holds Try.pinned (OpenSpec.ofChange fnExactLoopCountSpec)

/-- ITS FALSE NEIGHBOUR: 'it returns false'. Refute it at one input. -/
def fnExactLoopCountWrong : ChangeSpec := { name := "fnExactLoopCount", fn := fun _ => fun
  | [d] => { results := [.lit (.bool false)], args := [d] }
  | _ => none }
def FnExactLoopCountWrongFalsely : Prop := fnExactLoopCountRow.holds Try.pinned (OpenSpec.ofChange fnExactLoopCountWrong)

/-- 'laws.FnExactPartsOf': WHATEVER THE INPUT: true; the input reads as it did. -/
def fnExactPartsOfSpec : ChangeSpec := { name := "fnExactPartsOf", fn := fun _ => fun
  | [d] => { results := [.lit (.bool true)], args := [d] }
  | _ => none }
def fnExactPartsOfRow : OpenClaim := { program := "ytialodkhckaklaa", sum := "d725d0ab1f685f9cb9b46f35a0846fd51b176b99d6bec8eefe883e924997f52b", func := "loop.example/productprograms/laws.FnExactPartsOf", spec := "fnExactPartsOf", recurses := true, apart := false }
def FnExactPartsOfSaid : Prop := fnExactPartsOfRow.holds Try.pinned (OpenSpec.ofChange fnExactPartsOfSpec)

/-- ITS FALSE NEIGHBOUR: 'it returns false'. Refute it at one input. -/
def fnExactPartsOfWrong : ChangeSpec := { name := "fnExactPartsOf", fn := fun _ => fun
  | [d] => { results := [.lit (.bool false)], args := [d] }
  | _ => none }
def FnExactPartsOfWrongFalsely : Prop := fnExactPartsOfRow.holds Try.pinned (OpenSpec.ofChange fnExactPartsOfWrong)

/-- 'laws.FnExactStatementsOf': WHATEVER THE INPUT: true; the input reads as it did. -/
def fnExactStatementsOfSpec : ChangeSpec := { name := "fnExactStatementsOf", fn := fun _ => fun
  | [d] => { results := [.lit (.bool true)], args := [d] }
  | _ => none }
def fnExactStatementsOfRow : OpenClaim := { program := "ytialodkhckaklaa", sum := "d725d0ab1f685f9cb9b46f35a0846fd51b176b99d6bec8eefe883e924997f52b", func := "loop.example/productprograms/laws.FnExactStatementsOf", spec := "fnExactStatementsOf", recurses := true, apart := false }
def FnExactStatementsOfSaid : Prop := fnExactStatementsOfRow.holds Try.pinned (OpenSpec.ofChange fnExactStatementsOfSpec)

/-- ITS FALSE NEIGHBOUR: 'it returns false'. Refute it at one input. -/
def fnExactStatementsOfWrong : ChangeSpec := { name := "fnExactStatementsOf", fn := fun _ => fun
  | [d] => { results := [.lit (.bool false)], args := [d] }
  | _ => none }
def FnExactStatementsOfWrongFalsely : Prop := fnExactStatementsOfRow.holds Try.pinned (OpenSpec.ofChange fnExactStatementsOfWrong)

/-- 'laws.FnExactShowProgram': WHATEVER THE INPUT: true; the input reads as it did. -/
def fnExactShowProgramSpec : ChangeSpec := { name := "fnExactShowProgram", fn := fun _ => fun
  | [d] => { results := [.lit (.bool true)], args := [d] }
  | _ => none }
def fnExactShowProgramRow : OpenClaim := { program := "ytialodkhckaklaa", sum := "d725d0ab1f685f9cb9b46f35a0846fd51b176b99d6bec8eefe883e924997f52b", func := "loop.example/productprograms/laws.FnExactShowProgram", spec := "fnExactShowProgram", recurses := true, apart := false }
def FnExactShowProgramSaid : Prop := fnExactShowProgramRow.holds Try.pinned (OpenSpec.ofChange fnExactShowProgramSpec)

/-- ITS FALSE NEIGHBOUR: 'it returns false'. Refute it at one input. -/
def fnExactShowProgramWrong : ChangeSpec := { name := "fnExactShowProgram", fn := fun _ => fun
  | [d] => { results := [.lit (.bool false)], args := [d] }
  | _ => none }
def FnExactShowProgramWrongFalsely : Prop := fnExactShowProgramRow.holds Try.pinned (OpenSpec.ofChange fnExactShowProgramWrong)

/-- 'laws.FnExactShowWide': WHATEVER THE INPUT: true; the input reads as it did. -/
def fnExactShowWideSpec : ChangeSpec := { name := "fnExactShowWide", fn := fun _ => fun
  | [d] => { results := [.lit (.bool true)], args := [d] }
  | _ => none }
def fnExactShowWideRow : OpenClaim := { program := "ytialodkhckaklaa", sum := "d725d0ab1f685f9cb9b46f35a0846fd51b176b99d6bec8eefe883e924997f52b", func := "loop.example/productprograms/laws.FnExactShowWide", spec := "fnExactShowWide", recurses := true, apart := false }
def FnExactShowWideSaid : Prop := fnExactShowWideRow.holds Try.pinned (OpenSpec.ofChange fnExactShowWideSpec)

/-- ITS FALSE NEIGHBOUR: 'it returns false'. Refute it at one input. -/
def fnExactShowWideWrong : ChangeSpec := { name := "fnExactShowWide", fn := fun _ => fun
  | [d] => { results := [.lit (.bool false)], args := [d] }
  | _ => none }
def FnExactShowWideWrongFalsely : Prop := fnExactShowWideRow.holds Try.pinned (OpenSpec.ofChange fnExactShowWideWrong)

/-- 'laws.FnExactWritesOf': WHATEVER THE INPUT: true; the input reads as it did. -/
def fnExactWritesOfSpec : ChangeSpec := { name := "fnExactWritesOf", fn := fun _ => fun
  | [d] => { results := [.lit (.bool true)], args := [d] }
  | _ => none }
def fnExactWritesOfRow : OpenClaim := { program := "ytialodkhckaklaa", sum := "d725d0ab1f685f9cb9b46f35a0846fd51b176b99d6bec8eefe883e924997f52b", func := "loop.example/productprograms/laws.FnExactWritesOf", spec := "fnExactWritesOf", inPlace := ["internal/bytealg.IndexByteString", "internal/bytealg.IndexString"], unfollowed := true, recurses := true, named := ["internal/bytealg.MaxLen"], apart := false }
def FnExactWritesOfSaid : Prop := fnExactWritesOfRow.holds Try.pinned (OpenSpec.ofChange fnExactWritesOfSpec)

/-- ITS FALSE NEIGHBOUR: 'it returns false'. Refute it at one input. -/
def fnExactWritesOfWrong : ChangeSpec := { name := "fnExactWritesOf", fn := fun _ => fun
  | [d] => { results := [.lit (.bool false)], args := [d] }
  | _ => none }
def FnExactWritesOfWrongFalsely : Prop := fnExactWritesOfRow.holds Try.pinned (OpenSpec.ofChange fnExactWritesOfWrong)

/-- 'laws.FnExactReadsOf': WHATEVER THE INPUT: true; the input reads as it did. -/
def fnExactReadsOfSpec : ChangeSpec := { name := "fnExactReadsOf", fn := fun _ => fun
  | [d] => { results := [.lit (.bool true)], args := [d] }
  | _ => none }
def fnExactReadsOfRow : OpenClaim := { program := "ytialodkhckaklaa", sum := "d725d0ab1f685f9cb9b46f35a0846fd51b176b99d6bec8eefe883e924997f52b", func := "loop.example/productprograms/laws.FnExactReadsOf", spec := "fnExactReadsOf", inPlace := ["internal/bytealg.IndexByteString", "internal/bytealg.IndexString"], unfollowed := true, recurses := true, named := ["internal/bytealg.MaxLen"], apart := false }
def FnExactReadsOfSaid : Prop := fnExactReadsOfRow.holds Try.pinned (OpenSpec.ofChange fnExactReadsOfSpec)

/-- ITS FALSE NEIGHBOUR: 'it returns false'. Refute it at one input. -/
def fnExactReadsOfWrong : ChangeSpec := { name := "fnExactReadsOf", fn := fun _ => fun
  | [d] => { results := [.lit (.bool false)], args := [d] }
  | _ => none }
def FnExactReadsOfWrongFalsely : Prop := fnExactReadsOfRow.holds Try.pinned (OpenSpec.ofChange fnExactReadsOfWrong)

/-- 'laws.FnExactExprVars': WHATEVER THE INPUT: true; the input reads as it did. -/
def fnExactExprVarsSpec : ChangeSpec := { name := "fnExactExprVars", fn := fun _ => fun
  | [d] => { results := [.lit (.bool true)], args := [d] }
  | _ => none }
def fnExactExprVarsRow : OpenClaim := { program := "ytialodkhckaklaa", sum := "d725d0ab1f685f9cb9b46f35a0846fd51b176b99d6bec8eefe883e924997f52b", func := "loop.example/productprograms/laws.FnExactExprVars", spec := "fnExactExprVars", inPlace := ["internal/bytealg.IndexByteString", "internal/bytealg.IndexString"], recurses := true, named := ["internal/bytealg.MaxLen"], apart := false }
def FnExactExprVarsSaid : Prop := fnExactExprVarsRow.holds Try.pinned (OpenSpec.ofChange fnExactExprVarsSpec)

/-- ITS FALSE NEIGHBOUR: 'it returns false'. Refute it at one input. -/
def fnExactExprVarsWrong : ChangeSpec := { name := "fnExactExprVars", fn := fun _ => fun
  | [d] => { results := [.lit (.bool false)], args := [d] }
  | _ => none }
def FnExactExprVarsWrongFalsely : Prop := fnExactExprVarsRow.holds Try.pinned (OpenSpec.ofChange fnExactExprVarsWrong)

/-- 'laws.FnExactTestVars': WHATEVER THE INPUT: true; the input reads as it did. -/
def fnExactTestVarsSpec : ChangeSpec := { name := "fnExactTestVars", fn := fun _ => fun
  | [d] => { results := [.lit (.bool true)], args := [d] }
  | _ => none }
def fnExactTestVarsRow : OpenClaim := { program := "ytialodkhckaklaa", sum := "d725d0ab1f685f9cb9b46f35a0846fd51b176b99d6bec8eefe883e924997f52b", func := "loop.example/productprograms/laws.FnExactTestVars", spec := "fnExactTestVars", inPlace := ["internal/bytealg.IndexByteString", "internal/bytealg.IndexString"], recurses := true, named := ["internal/bytealg.MaxLen"], apart := false }
def FnExactTestVarsSaid : Prop := fnExactTestVarsRow.holds Try.pinned (OpenSpec.ofChange fnExactTestVarsSpec)

/-- ITS FALSE NEIGHBOUR: 'it returns false'. Refute it at one input. -/
def fnExactTestVarsWrong : ChangeSpec := { name := "fnExactTestVars", fn := fun _ => fun
  | [d] => { results := [.lit (.bool false)], args := [d] }
  | _ => none }
def FnExactTestVarsWrongFalsely : Prop := fnExactTestVarsRow.holds Try.pinned (OpenSpec.ofChange fnExactTestVarsWrong)

/- THE SECOND FORM. 'bulk': how many values and letters a reading holds, each counted each time it is reached (what is shared counts as often as it is met; a slice's spare places count too). A statement '..UptoSaid' is the law's where the arguments, and the package variables that the reading takes, are together of bulk at most 1048576: NARROWER than '..Said'. Prove '..Said' where nothing that the law and all that it calls make is longer than what came in: it says more and counts as full. Else prove '..UptoSaid'. A law counts once. -/
mutual
def uptoBulk {H : Type} : DataW H → Nat
  | .lit (.string bytes) => bytes.length + 1
  | .lit _ => 1
  | .nil => 1
  | .ptr d => uptoBulk d + 1
  | .slice elems spare => uptoBulkAll elems + uptoBulkAll spare + 1
  | .agg parts => uptoBulkAll parts + 1
  | .iface _ d => uptoBulk d + 1
  | .map entries => uptoBulkEntries entries + 1
  | .held _ => 1
def uptoBulkAll {H : Type} : List (DataW H) → Nat
  | [] => 0
  | d :: r => uptoBulk d + uptoBulkAll r
def uptoBulkEntries {H : Type} : List (Lit × DataW H) → Nat
  | [] => 0
  | x :: r => uptoBulkEntry x + uptoBulkEntries r
def uptoBulkEntry {H : Type} : Lit × DataW H → Nat
  | (.string bytes, d) => bytes.length + uptoBulk d + 1
  | (_, d) => uptoBulk d + 1
 end
def uptoSmall : (H : Type) → List (DataW H) → Bool := fun _ ds => decide (uptoBulkAll ds ≤ 1048576)
def OpenSpec.upto (s : _root_.Go.ChangeSpec) : _root_.Go.OpenSpec := { _root_.Go.OpenSpec.ofChange s with cond := some uptoSmall }

/-- 'laws.FnExactDepthOf', WHERE WHAT IT READS IS OF BULK AT MOST 1048576: true; the input reads as it did. -/
def fnExactDepthOfUptoRow : OpenClaim := { program := "ytialodkhckaklaa", sum := "d725d0ab1f685f9cb9b46f35a0846fd51b176b99d6bec8eefe883e924997f52b", func := "loop.example/productprograms/laws.FnExactDepthOf", spec := "fnExactDepthOf", recurses := true, apart := false, narrowed := true }
def FnExactDepthOfUptoSaid : Prop := fnExactDepthOfUptoRow.holds Try.pinned (OpenSpec.upto fnExactDepthOfSpec)

/-- 'laws.FnExactSizeOf', WHERE WHAT IT READS IS OF BULK AT MOST 1048576: true; the input reads as it did. -/
def fnExactSizeOfUptoRow : OpenClaim := { program := "ytialodkhckaklaa", sum := "d725d0ab1f685f9cb9b46f35a0846fd51b176b99d6bec8eefe883e924997f52b", func := "loop.example/productprograms/laws.FnExactSizeOf", spec := "fnExactSizeOf", unfollowed := true, recurses := true, apart := false, narrowed := true }
def FnExactSizeOfUptoSaid : Prop := fnExactSizeOfUptoRow.holds Try.pinned (OpenSpec.upto fnExactSizeOfSpec)

/-- 'laws.FnExactIsPlain', WHERE WHAT IT READS IS OF BULK AT MOST 1048576: true; the input reads as it did. -/
def fnExactIsPlainUptoRow : OpenClaim := { program := "ytialodkhckaklaa", sum := "d725d0ab1f685f9cb9b46f35a0846fd51b176b99d6bec8eefe883e924997f52b", func := "loop.example/productprograms/laws.FnExactIsPlain", spec := "fnExactIsPlain", inPlace := ["internal/bytealg.IndexByteString"], unfollowed := true, recurses := true, apart := false, narrowed := true }
def FnExactIsPlainUptoSaid : Prop := fnExactIsPlainUptoRow.holds Try.pinned (OpenSpec.upto fnExactIsPlainSpec)

/-- 'laws.FnExactLoopCount', WHERE WHAT IT READS IS OF BULK AT MOST 1048576: true; the input reads as it did. -/
def fnExactLoopCountUptoRow : OpenClaim := { program := "ytialodkhckaklaa", sum := "d725d0ab1f685f9cb9b46f35a0846fd51b176b99d6bec8eefe883e924997f52b", func := "loop.example/productprograms/laws.FnExactLoopCount", spec := "fnExactLoopCount", inPlace := ["internal/bytealg.IndexByteString"], unfollowed := true, recurses := true, apart := false, narrowed := true }
def FnExactLoopCountUptoSaid : Prop := fnExactLoopCountUptoRow.holds Try.pinned (OpenSpec.upto fnExactLoopCountSpec)

/-- 'laws.FnExactPartsOf', WHERE WHAT IT READS IS OF BULK AT MOST 1048576: true; the input reads as it did. -/
def fnExactPartsOfUptoRow : OpenClaim := { program := "ytialodkhckaklaa", sum := "d725d0ab1f685f9cb9b46f35a0846fd51b176b99d6bec8eefe883e924997f52b", func := "loop.example/productprograms/laws.FnExactPartsOf", spec := "fnExactPartsOf", recurses := true, apart := false, narrowed := true }
def FnExactPartsOfUptoSaid : Prop := fnExactPartsOfUptoRow.holds Try.pinned (OpenSpec.upto fnExactPartsOfSpec)

/-- 'laws.FnExactStatementsOf', WHERE WHAT IT READS IS OF BULK AT MOST 1048576: true; the input reads as it did. -/
def fnExactStatementsOfUptoRow : OpenClaim := { program := "ytialodkhckaklaa", sum := "d725d0ab1f685f9cb9b46f35a0846fd51b176b99d6bec8eefe883e924997f52b", func := "loop.example/productprograms/laws.FnExactStatementsOf", spec := "fnExactStatementsOf", recurses := true, apart := false, narrowed := true }
def FnExactStatementsOfUptoSaid : Prop := fnExactStatementsOfUptoRow.holds Try.pinned (OpenSpec.upto fnExactStatementsOfSpec)

/-- 'laws.FnExactShowProgram', WHERE WHAT IT READS IS OF BULK AT MOST 1048576: true; the input reads as it did. -/
def fnExactShowProgramUptoRow : OpenClaim := { program := "ytialodkhckaklaa", sum := "d725d0ab1f685f9cb9b46f35a0846fd51b176b99d6bec8eefe883e924997f52b", func := "loop.example/productprograms/laws.FnExactShowProgram", spec := "fnExactShowProgram", recurses := true, apart := false, narrowed := true }
def FnExactShowProgramUptoSaid : Prop := fnExactShowProgramUptoRow.holds Try.pinned (OpenSpec.upto fnExactShowProgramSpec)

/-- 'laws.FnExactShowWide', WHERE WHAT IT READS IS OF BULK AT MOST 1048576: true; the input reads as it did. -/
def fnExactShowWideUptoRow : OpenClaim := { program := "ytialodkhckaklaa", sum := "d725d0ab1f685f9cb9b46f35a0846fd51b176b99d6bec8eefe883e924997f52b", func := "loop.example/productprograms/laws.FnExactShowWide", spec := "fnExactShowWide", recurses := true, apart := false, narrowed := true }
def FnExactShowWideUptoSaid : Prop := fnExactShowWideUptoRow.holds Try.pinned (OpenSpec.upto fnExactShowWideSpec)

/-- 'laws.FnExactWritesOf', WHERE WHAT IT READS IS OF BULK AT MOST 1048576: true; the input reads as it did. -/
def fnExactWritesOfUptoRow : OpenClaim := { program := "ytialodkhckaklaa", sum := "d725d0ab1f685f9cb9b46f35a0846fd51b176b99d6bec8eefe883e924997f52b", func := "loop.example/productprograms/laws.FnExactWritesOf", spec := "fnExactWritesOf", inPlace := ["internal/bytealg.IndexByteString", "internal/bytealg.IndexString"], unfollowed := true, recurses := true, named := ["internal/bytealg.MaxLen"], apart := false, narrowed := true }
def FnExactWritesOfUptoSaid : Prop := fnExactWritesOfUptoRow.holds Try.pinned (OpenSpec.upto fnExactWritesOfSpec)

/-- 'laws.FnExactReadsOf', WHERE WHAT IT READS IS OF BULK AT MOST 1048576: true; the input reads as it did. -/
def fnExactReadsOfUptoRow : OpenClaim := { program := "ytialodkhckaklaa", sum := "d725d0ab1f685f9cb9b46f35a0846fd51b176b99d6bec8eefe883e924997f52b", func := "loop.example/productprograms/laws.FnExactReadsOf", spec := "fnExactReadsOf", inPlace := ["internal/bytealg.IndexByteString", "internal/bytealg.IndexString"], unfollowed := true, recurses := true, named := ["internal/bytealg.MaxLen"], apart := false, narrowed := true }
def FnExactReadsOfUptoSaid : Prop := fnExactReadsOfUptoRow.holds Try.pinned (OpenSpec.upto fnExactReadsOfSpec)

/-- 'laws.FnExactExprVars', WHERE WHAT IT READS IS OF BULK AT MOST 1048576: true; the input reads as it did. -/
def fnExactExprVarsUptoRow : OpenClaim := { program := "ytialodkhckaklaa", sum := "d725d0ab1f685f9cb9b46f35a0846fd51b176b99d6bec8eefe883e924997f52b", func := "loop.example/productprograms/laws.FnExactExprVars", spec := "fnExactExprVars", inPlace := ["internal/bytealg.IndexByteString", "internal/bytealg.IndexString"], recurses := true, named := ["internal/bytealg.MaxLen"], apart := false, narrowed := true }
def FnExactExprVarsUptoSaid : Prop := fnExactExprVarsUptoRow.holds Try.pinned (OpenSpec.upto fnExactExprVarsSpec)

/-- 'laws.FnExactTestVars', WHERE WHAT IT READS IS OF BULK AT MOST 1048576: true; the input reads as it did. -/
def fnExactTestVarsUptoRow : OpenClaim := { program := "ytialodkhckaklaa", sum := "d725d0ab1f685f9cb9b46f35a0846fd51b176b99d6bec8eefe883e924997f52b", func := "loop.example/productprograms/laws.FnExactTestVars", spec := "fnExactTestVars", inPlace := ["internal/bytealg.IndexByteString", "internal/bytealg.IndexString"], recurses := true, named := ["internal/bytealg.MaxLen"], apart := false, narrowed := true }
def FnExactTestVarsUptoSaid : Prop := fnExactTestVarsUptoRow.holds Try.pinned (OpenSpec.upto fnExactTestVarsSpec)

end Rows
end Go.Proofs.Ytialodkhckaklaa
