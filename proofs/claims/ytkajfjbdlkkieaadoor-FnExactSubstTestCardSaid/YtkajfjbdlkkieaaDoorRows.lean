/-
  NARROWER THAN 'FOR EVERY INPUT', by the rows' own cells (each row's printed sentence says how): FnExactSubstExpr: laid · FnExactSubstTest: laid · FnExactAssignPre: laid · FnExactAssignPost: laid.
  DERIVED. THE GIVEN ROWS OF THIS SEAT. 4 by the template 'for every input the law returns true; each argument reads behind the call as it read before'; 0 by the template 'total and deterministic' (their statements: YtkajfjbdlkkieaaDoorTotals.lean).
  GIVEN WITH THE SEED: the statements are not yours to turn. If you find one false, say at which input.
  Laid BY PROGRAM, IN A SANDBOX (cutbox-rows.mjs): the forced cells as the released guide's own fill.sh prints them over the translation 97570864de0d4eac… (all of the seat's roots in one cut). By AI agents, Wed Nov 11 2026. No macro, syntax, notation, axiom, sorry.
-/
import Derived.Test.YtkajfjbdlkkieaaDoorChecked
import GoSem.PinnedTables
import GoSem.Claim
import GoSem.ClaimJoined
import GoSem.ClaimMapViews
import Derived.JoinedTies
import Derived.KernelRfl
namespace Go.Proofs.YtkajfjbdlkkieaaDoor
/- THE CELL 'sum', in the pinned program and in every row, IS THE sha256 OF THE DUMP (.gsa) THAT YtkajfjbdlkkieaaDoorProg.lean LOADS. Nothing in Lean hashes anything: it is a label: what it is worth is what the hold of that sum in a sandbox is worth. -/
noncomputable def Tryd.pinned : Pinned := { name := "ytkajfjbdlkkieaadoor", sum := "97570864de0d4eac5b19a0a21744f1e9209f1b2f70122bc94e2a2858e009faf7", checked := Tryd.checked }
namespace Rows
def none {H : Type} : Left H := { results := [], args := [] }

/- WHAT THE LISTED PACKAGE-LEVEL VARIABLES READ AS WHEN THE CALL BEGINS. Each datum BY PROGRAM (the guide's laid-datum.mjs) off the statement by which the dump's own 'gosem.cut.vars' lays the variable. In a bare row this is a premise. The card (YtkajfjbdlkkieaaDoorCards.lean) ties it to the program's text. -/
def laid_unicode_utf8_acceptRanges {H : Type} : DataW H := .agg [.agg [.lit (.int .u8 128), .lit (.int .u8 191)], .agg [.lit (.int .u8 160), .lit (.int .u8 191)], .agg [.lit (.int .u8 128), .lit (.int .u8 159)], .agg [.lit (.int .u8 144), .lit (.int .u8 191)], .agg [.lit (.int .u8 128), .lit (.int .u8 143)], .agg [.lit (.int .u8 0), .lit (.int .u8 0)], .agg [.lit (.int .u8 0), .lit (.int .u8 0)], .agg [.lit (.int .u8 0), .lit (.int .u8 0)], .agg [.lit (.int .u8 0), .lit (.int .u8 0)], .agg [.lit (.int .u8 0), .lit (.int .u8 0)], .agg [.lit (.int .u8 0), .lit (.int .u8 0)], .agg [.lit (.int .u8 0), .lit (.int .u8 0)], .agg [.lit (.int .u8 0), .lit (.int .u8 0)], .agg [.lit (.int .u8 0), .lit (.int .u8 0)], .agg [.lit (.int .u8 0), .lit (.int .u8 0)], .agg [.lit (.int .u8 0), .lit (.int .u8 0)]]
/-- One of Go's own tables, pinned by name: the form's constant. -/
def laid_unicode_utf8_first : DataW Unit := Go.Pinned.utf8First
def laid_loop_example_productprograms_impl_strides {H : Type} : DataW H := .agg [.lit (.int .i64 1), .lit (.int .i64 3), .lit (.int .i64 9)]

/-- 'laws.FnExactSubstExpr': WHATEVER THE INPUT: true; the input reads as it did. -/
def fnExactSubstExprSpec : ChangeSpec := { name := "fnExactSubstExpr", fn := fun _ => fun
  | [d1, d2, d3] => { results := [.lit (.bool true)], args := [d1, d2, d3] }
  | _ => none }
def fnExactSubstExprRow : OpenClaim := { program := "ytkajfjbdlkkieaadoor", sum := "97570864de0d4eac5b19a0a21744f1e9209f1b2f70122bc94e2a2858e009faf7", func := "loop.example/productprograms/laws.FnExactSubstExpr", spec := "fnExactSubstExpr", inPlace := ["internal/bytealg.CountString", "internal/bytealg.IndexByteString", "internal/bytealg.IndexString", "internal/abi.NoEscape", "internal/bytealg.MakeNoZero"], recurses := true, named := ["internal/bytealg.MaxLen", "unicode/utf8.first", "unicode/utf8.acceptRanges"], apart := false, laid := [("unicode/utf8.acceptRanges", laid_unicode_utf8_acceptRanges), ("unicode/utf8.first", laid_unicode_utf8_first)] }
def FnExactSubstExprSaid : Prop := fnExactSubstExprRow.holds Tryd.pinned (OpenSpec.ofChange fnExactSubstExprSpec)

/-- ITS FALSE NEIGHBOUR: 'it returns false'. Refute it at one input. -/
def fnExactSubstExprWrong : ChangeSpec := { name := "fnExactSubstExpr", fn := fun _ => fun
  | [d1, d2, d3] => { results := [.lit (.bool false)], args := [d1, d2, d3] }
  | _ => none }
def FnExactSubstExprWrongFalsely : Prop := fnExactSubstExprRow.holds Tryd.pinned (OpenSpec.ofChange fnExactSubstExprWrong)

/-- 'laws.FnExactSubstTest': WHATEVER THE INPUT: true; the input reads as it did. -/
def fnExactSubstTestSpec : ChangeSpec := { name := "fnExactSubstTest", fn := fun _ => fun
  | [d1, d2, d3] => { results := [.lit (.bool true)], args := [d1, d2, d3] }
  | _ => none }
def fnExactSubstTestRow : OpenClaim := { program := "ytkajfjbdlkkieaadoor", sum := "97570864de0d4eac5b19a0a21744f1e9209f1b2f70122bc94e2a2858e009faf7", func := "loop.example/productprograms/laws.FnExactSubstTest", spec := "fnExactSubstTest", inPlace := ["internal/bytealg.CountString", "internal/bytealg.IndexByteString", "internal/bytealg.IndexString", "internal/abi.NoEscape", "internal/bytealg.MakeNoZero"], recurses := true, named := ["internal/bytealg.MaxLen", "unicode/utf8.first", "unicode/utf8.acceptRanges"], apart := false, laid := [("unicode/utf8.acceptRanges", laid_unicode_utf8_acceptRanges), ("unicode/utf8.first", laid_unicode_utf8_first)] }
def FnExactSubstTestSaid : Prop := fnExactSubstTestRow.holds Tryd.pinned (OpenSpec.ofChange fnExactSubstTestSpec)

/-- ITS FALSE NEIGHBOUR: 'it returns false'. Refute it at one input. -/
def fnExactSubstTestWrong : ChangeSpec := { name := "fnExactSubstTest", fn := fun _ => fun
  | [d1, d2, d3] => { results := [.lit (.bool false)], args := [d1, d2, d3] }
  | _ => none }
def FnExactSubstTestWrongFalsely : Prop := fnExactSubstTestRow.holds Tryd.pinned (OpenSpec.ofChange fnExactSubstTestWrong)

/-- 'laws.FnExactAssignPre': WHATEVER THE INPUT: true; the input reads as it did. -/
def fnExactAssignPreSpec : ChangeSpec := { name := "fnExactAssignPre", vars := ["loop.example/productprograms/impl.strides"], fn := fun _ => fun
  | [d1, d2, d3, g1] => { results := [.lit (.bool true)], args := [d1, d2, d3], vars := [g1] }
  | _ => none }
def fnExactAssignPreRow : OpenClaim := { program := "ytkajfjbdlkkieaadoor", sum := "97570864de0d4eac5b19a0a21744f1e9209f1b2f70122bc94e2a2858e009faf7", func := "loop.example/productprograms/laws.FnExactAssignPre", spec := "fnExactAssignPre", unfollowed := true, recurses := true, named := ["loop.example/productprograms/impl.strides"], apart := false, laid := [("loop.example/productprograms/impl.strides", laid_loop_example_productprograms_impl_strides)] }
def FnExactAssignPreSaid : Prop := fnExactAssignPreRow.holds Tryd.pinned (OpenSpec.ofChange fnExactAssignPreSpec)

/-- ITS FALSE NEIGHBOUR: 'it returns false'. Refute it at one input. -/
def fnExactAssignPreWrong : ChangeSpec := { name := "fnExactAssignPre", vars := ["loop.example/productprograms/impl.strides"], fn := fun _ => fun
  | [d1, d2, d3, g1] => { results := [.lit (.bool false)], args := [d1, d2, d3], vars := [g1] }
  | _ => none }
def FnExactAssignPreWrongFalsely : Prop := fnExactAssignPreRow.holds Tryd.pinned (OpenSpec.ofChange fnExactAssignPreWrong)

/-- 'laws.FnExactAssignPost': WHATEVER THE INPUT: true; the input reads as it did. -/
def fnExactAssignPostSpec : ChangeSpec := { name := "fnExactAssignPost", vars := ["loop.example/productprograms/impl.strides"], fn := fun _ => fun
  | [d1, d2, d3, g1] => { results := [.lit (.bool true)], args := [d1, d2, d3], vars := [g1] }
  | _ => none }
def fnExactAssignPostRow : OpenClaim := { program := "ytkajfjbdlkkieaadoor", sum := "97570864de0d4eac5b19a0a21744f1e9209f1b2f70122bc94e2a2858e009faf7", func := "loop.example/productprograms/laws.FnExactAssignPost", spec := "fnExactAssignPost", unfollowed := true, recurses := true, named := ["loop.example/productprograms/impl.strides"], apart := false, laid := [("loop.example/productprograms/impl.strides", laid_loop_example_productprograms_impl_strides)] }
def FnExactAssignPostSaid : Prop := fnExactAssignPostRow.holds Tryd.pinned (OpenSpec.ofChange fnExactAssignPostSpec)

/-- ITS FALSE NEIGHBOUR: 'it returns false'. Refute it at one input. -/
def fnExactAssignPostWrong : ChangeSpec := { name := "fnExactAssignPost", vars := ["loop.example/productprograms/impl.strides"], fn := fun _ => fun
  | [d1, d2, d3, g1] => { results := [.lit (.bool false)], args := [d1, d2, d3], vars := [g1] }
  | _ => none }
def FnExactAssignPostWrongFalsely : Prop := fnExactAssignPostRow.holds Tryd.pinned (OpenSpec.ofChange fnExactAssignPostWrong)

/- THE SECOND FORM. 'bulk': how many values and letters a reading holds, each counted each time it is reached (what is shared counts as often as it is met; a slice's spare places count too). A statement '..UptoSaid' is the law's where the arguments, and the package variables that the reading takes, are together of bulk at most 1048576: NARROWER than '..Said'. Prove '..Said' where nothing that the law and all that it calls make is longer than what came in: it says more and counts as full. Else prove '..UptoSaid'. A law counts once. -/
mutual
def uptoBulk {H : Type} : DataW H → Nat
  | .lit (.string bytes) => bytes.length + 1
  | .lit _ => 1
  | .nil => 1
  | .ptr d => uptoBulk d + 1
  | .slice elems spare => uptoBulkAll elems + uptoBulkAll spare + 1
  | .agg parts => uptoBulkAll parts + 1
  | .iface _ d => uptoBulk d + 1
  | .map entries => uptoBulkEntries entries + 1
  | .held _ => 1
def uptoBulkAll {H : Type} : List (DataW H) → Nat
  | [] => 0
  | d :: r => uptoBulk d + uptoBulkAll r
def uptoBulkEntries {H : Type} : List (Lit × DataW H) → Nat
  | [] => 0
  | x :: r => uptoBulkEntry x + uptoBulkEntries r
def uptoBulkEntry {H : Type} : Lit × DataW H → Nat
  | (.string bytes, d) => bytes.length + uptoBulk d + 1
  | (_, d) => uptoBulk d + 1
 end
def uptoSmall : (H : Type) → List (DataW H) → Bool := fun _ ds => decide (uptoBulkAll ds ≤ 1048576)
def OpenSpec.upto (s : _root_.Go.ChangeSpec) : _root_.Go.OpenSpec := { _root_.Go.OpenSpec.ofChange s with cond := some uptoSmall }

/-- 'laws.FnExactSubstExpr', WHERE WHAT IT READS IS OF BULK AT MOST 1048576: true; the input reads as it did. -/
def fnExactSubstExprUptoRow : OpenClaim := { program := "ytkajfjbdlkkieaadoor", sum := "97570864de0d4eac5b19a0a21744f1e9209f1b2f70122bc94e2a2858e009faf7", func := "loop.example/productprograms/laws.FnExactSubstExpr", spec := "fnExactSubstExpr", inPlace := ["internal/bytealg.CountString", "internal/bytealg.IndexByteString", "internal/bytealg.IndexString", "internal/abi.NoEscape", "internal/bytealg.MakeNoZero"], recurses := true, named := ["internal/bytealg.MaxLen", "unicode/utf8.first", "unicode/utf8.acceptRanges"], apart := false, laid := [("unicode/utf8.acceptRanges", laid_unicode_utf8_acceptRanges), ("unicode/utf8.first", laid_unicode_utf8_first)], narrowed := true }
def FnExactSubstExprUptoSaid : Prop := fnExactSubstExprUptoRow.holds Tryd.pinned (OpenSpec.upto fnExactSubstExprSpec)

/-- 'laws.FnExactSubstTest', WHERE WHAT IT READS IS OF BULK AT MOST 1048576: true; the input reads as it did. -/
def fnExactSubstTestUptoRow : OpenClaim := { program := "ytkajfjbdlkkieaadoor", sum := "97570864de0d4eac5b19a0a21744f1e9209f1b2f70122bc94e2a2858e009faf7", func := "loop.example/productprograms/laws.FnExactSubstTest", spec := "fnExactSubstTest", inPlace := ["internal/bytealg.CountString", "internal/bytealg.IndexByteString", "internal/bytealg.IndexString", "internal/abi.NoEscape", "internal/bytealg.MakeNoZero"], recurses := true, named := ["internal/bytealg.MaxLen", "unicode/utf8.first", "unicode/utf8.acceptRanges"], apart := false, laid := [("unicode/utf8.acceptRanges", laid_unicode_utf8_acceptRanges), ("unicode/utf8.first", laid_unicode_utf8_first)], narrowed := true }
def FnExactSubstTestUptoSaid : Prop := fnExactSubstTestUptoRow.holds Tryd.pinned (OpenSpec.upto fnExactSubstTestSpec)

/-- 'laws.FnExactAssignPre', WHERE WHAT IT READS IS OF BULK AT MOST 1048576: true; the input reads as it did. -/
def fnExactAssignPreUptoRow : OpenClaim := { program := "ytkajfjbdlkkieaadoor", sum := "97570864de0d4eac5b19a0a21744f1e9209f1b2f70122bc94e2a2858e009faf7", func := "loop.example/productprograms/laws.FnExactAssignPre", spec := "fnExactAssignPre", unfollowed := true, recurses := true, named := ["loop.example/productprograms/impl.strides"], apart := false, laid := [("loop.example/productprograms/impl.strides", laid_loop_example_productprograms_impl_strides)], narrowed := true }
def FnExactAssignPreUptoSaid : Prop := fnExactAssignPreUptoRow.holds Tryd.pinned (OpenSpec.upto fnExactAssignPreSpec)

/-- 'laws.FnExactAssignPost', WHERE WHAT IT READS IS OF BULK AT MOST 1048576: true; the input reads as it did. -/
def fnExactAssignPostUptoRow : OpenClaim := { program := "ytkajfjbdlkkieaadoor", sum := "97570864de0d4eac5b19a0a21744f1e9209f1b2f70122bc94e2a2858e009faf7", func := "loop.example/productprograms/laws.FnExactAssignPost", spec := "fnExactAssignPost", unfollowed := true, recurses := true, named := ["loop.example/productprograms/impl.strides"], apart := false, laid := [("loop.example/productprograms/impl.strides", laid_loop_example_productprograms_impl_strides)], narrowed := true }
def FnExactAssignPostUptoSaid : Prop := fnExactAssignPostUptoRow.holds Tryd.pinned (OpenSpec.upto fnExactAssignPostSpec)

end Rows
end Go.Proofs.YtkajfjbdlkkieaaDoor
