/-
  NARROWER THAN 'FOR EVERY INPUT', by the rows' own cells (each row's printed sentence says how): FnExactAllVar: laid · FnExactSomeVar: laid · FnExactAgreeOn: laid.
  DERIVED. THE GIVEN ROWS OF THIS SEAT. 3 by the template 'for every input the law returns true; each argument reads behind the call as it read before'; 0 by the template 'total and deterministic' (their statements: YtdmfcbjjnjpniaaDoorTotals.lean).
  GIVEN WITH THE SEED: the statements are not yours to turn. If you find one false, say at which input.
  Laid BY PROGRAM, IN A SANDBOX (cutbox-rows.mjs): the forced cells as the released guide's own fill.sh prints them over the translation 48dd9f5c269f138d… (all of the seat's roots in one cut). By AI agents, Wed Nov 11 2026. No macro, syntax, notation, axiom, sorry.
-/
import Derived.Test.YtdmfcbjjnjpniaaDoorChecked
import GoSem.Claim
import GoSem.ClaimJoined
import GoSem.ClaimMapViews
import Derived.JoinedTies
import Derived.KernelRfl
namespace Go.Proofs.YtdmfcbjjnjpniaaDoor
/- THE CELL 'sum', in the pinned program and in every row, IS THE sha256 OF THE DUMP (.gsa) THAT YtdmfcbjjnjpniaaDoorProg.lean LOADS. Nothing in Lean hashes anything: it is a label: what it is worth is what the hold of that sum in a sandbox is worth. -/
noncomputable def Tryd.pinned : Pinned := { name := "ytdmfcbjjnjpniaadoor", sum := "48dd9f5c269f138d7bd1f0a098aa28d3496a27a61401b9de414336032b6762d2", checked := Tryd.checked }
namespace Rows
def none {H : Type} : Left H := { results := [], args := [] }

/- WHAT THE LISTED PACKAGE-LEVEL VARIABLES READ AS WHEN THE CALL BEGINS. Each datum BY PROGRAM (the guide's laid-datum.mjs) off the statement by which the dump's own 'gosem.cut.vars' lays the variable. In a bare row this is a premise. The card (YtdmfcbjjnjpniaaDoorCards.lean) ties it to the program's text. -/
def laid_loop_example_productprograms_impl_strides {H : Type} : DataW H := .agg [.lit (.int .i64 1), .lit (.int .i64 3), .lit (.int .i64 9)]

/-- 'laws.FnExactAllVar': WHATEVER THE INPUT: true; the input reads as it did. -/
def fnExactAllVarSpec : ChangeSpec := { name := "fnExactAllVar", vars := ["loop.example/productprograms/impl.strides"], fn := fun _ => fun
  | [d1, d2, g1] => { results := [.lit (.bool true)], args := [d1, d2], vars := [g1] }
  | _ => none }
def fnExactAllVarRow : OpenClaim := { program := "ytdmfcbjjnjpniaadoor", sum := "48dd9f5c269f138d7bd1f0a098aa28d3496a27a61401b9de414336032b6762d2", func := "loop.example/productprograms/laws.FnExactAllVar", spec := "fnExactAllVar", unfollowed := true, recurses := true, named := ["loop.example/productprograms/impl.strides"], apart := false, laid := [("loop.example/productprograms/impl.strides", laid_loop_example_productprograms_impl_strides)] }
def FnExactAllVarSaid : Prop := fnExactAllVarRow.holds Tryd.pinned (OpenSpec.ofChange fnExactAllVarSpec)

/-- ITS FALSE NEIGHBOUR: 'it returns false'. Refute it at one input. -/
def fnExactAllVarWrong : ChangeSpec := { name := "fnExactAllVar", vars := ["loop.example/productprograms/impl.strides"], fn := fun _ => fun
  | [d1, d2, g1] => { results := [.lit (.bool false)], args := [d1, d2], vars := [g1] }
  | _ => none }
def FnExactAllVarWrongFalsely : Prop := fnExactAllVarRow.holds Tryd.pinned (OpenSpec.ofChange fnExactAllVarWrong)

/-- 'laws.FnExactSomeVar': WHATEVER THE INPUT: true; the input reads as it did. -/
def fnExactSomeVarSpec : ChangeSpec := { name := "fnExactSomeVar", vars := ["loop.example/productprograms/impl.strides"], fn := fun _ => fun
  | [d1, d2, g1] => { results := [.lit (.bool true)], args := [d1, d2], vars := [g1] }
  | _ => none }
def fnExactSomeVarRow : OpenClaim := { program := "ytdmfcbjjnjpniaadoor", sum := "48dd9f5c269f138d7bd1f0a098aa28d3496a27a61401b9de414336032b6762d2", func := "loop.example/productprograms/laws.FnExactSomeVar", spec := "fnExactSomeVar", unfollowed := true, recurses := true, named := ["loop.example/productprograms/impl.strides"], apart := false, laid := [("loop.example/productprograms/impl.strides", laid_loop_example_productprograms_impl_strides)] }
def FnExactSomeVarSaid : Prop := fnExactSomeVarRow.holds Tryd.pinned (OpenSpec.ofChange fnExactSomeVarSpec)

/-- ITS FALSE NEIGHBOUR: 'it returns false'. Refute it at one input. -/
def fnExactSomeVarWrong : ChangeSpec := { name := "fnExactSomeVar", vars := ["loop.example/productprograms/impl.strides"], fn := fun _ => fun
  | [d1, d2, g1] => { results := [.lit (.bool false)], args := [d1, d2], vars := [g1] }
  | _ => none }
def FnExactSomeVarWrongFalsely : Prop := fnExactSomeVarRow.holds Tryd.pinned (OpenSpec.ofChange fnExactSomeVarWrong)

/-- 'laws.FnExactAgreeOn': WHATEVER THE INPUT: true; the input reads as it did. -/
def fnExactAgreeOnSpec : ChangeSpec := { name := "fnExactAgreeOn", vars := ["loop.example/productprograms/impl.strides"], fn := fun _ => fun
  | [d, g1] => { results := [.lit (.bool true)], args := [d], vars := [g1] }
  | _ => none }
def fnExactAgreeOnRow : OpenClaim := { program := "ytdmfcbjjnjpniaadoor", sum := "48dd9f5c269f138d7bd1f0a098aa28d3496a27a61401b9de414336032b6762d2", func := "loop.example/productprograms/laws.FnExactAgreeOn", spec := "fnExactAgreeOn", unfollowed := true, recurses := true, named := ["loop.example/productprograms/impl.strides"], apart := false, laid := [("loop.example/productprograms/impl.strides", laid_loop_example_productprograms_impl_strides)] }
def FnExactAgreeOnSaid : Prop := fnExactAgreeOnRow.holds Tryd.pinned (OpenSpec.ofChange fnExactAgreeOnSpec)

/-- ITS FALSE NEIGHBOUR: 'it returns false'. Refute it at one input. -/
def fnExactAgreeOnWrong : ChangeSpec := { name := "fnExactAgreeOn", vars := ["loop.example/productprograms/impl.strides"], fn := fun _ => fun
  | [d, g1] => { results := [.lit (.bool false)], args := [d], vars := [g1] }
  | _ => none }
def FnExactAgreeOnWrongFalsely : Prop := fnExactAgreeOnRow.holds Tryd.pinned (OpenSpec.ofChange fnExactAgreeOnWrong)

/- THE SECOND FORM. 'bulk': how many values and letters a reading holds, each counted each time it is reached (what is shared counts as often as it is met; a slice's spare places count too). A statement '..UptoSaid' is the law's where the arguments, and the package variables that the reading takes, are together of bulk at most 1048576: NARROWER than '..Said'. Prove '..Said' where nothing that the law and all that it calls make is longer than what came in: it says more and counts as full. Else prove '..UptoSaid'. A law counts once. -/
mutual
def uptoBulk {H : Type} : DataW H → Nat
  | .lit (.string bytes) => bytes.length + 1
  | .lit _ => 1
  | .nil => 1
  | .ptr d => uptoBulk d + 1
  | .slice elems spare => uptoBulkAll elems + uptoBulkAll spare + 1
  | .agg parts => uptoBulkAll parts + 1
  | .iface _ d => uptoBulk d + 1
  | .map entries => uptoBulkEntries entries + 1
  | .held _ => 1
def uptoBulkAll {H : Type} : List (DataW H) → Nat
  | [] => 0
  | d :: r => uptoBulk d + uptoBulkAll r
def uptoBulkEntries {H : Type} : List (Lit × DataW H) → Nat
  | [] => 0
  | x :: r => uptoBulkEntry x + uptoBulkEntries r
def uptoBulkEntry {H : Type} : Lit × DataW H → Nat
  | (.string bytes, d) => bytes.length + uptoBulk d + 1
  | (_, d) => uptoBulk d + 1
 end
def uptoSmall : (H : Type) → List (DataW H) → Bool := fun _ ds => decide (uptoBulkAll ds ≤ 1048576)
def OpenSpec.upto (s : _root_.Go.ChangeSpec) : _root_.Go.OpenSpec := { _root_.Go.OpenSpec.ofChange s with cond := some uptoSmall }

/-- 'laws.FnExactAllVar', WHERE WHAT IT READS IS OF BULK AT MOST 1048576: true; the input reads as it did. -/
def fnExactAllVarUptoRow : OpenClaim := { program := "ytdmfcbjjnjpniaadoor", sum := "48dd9f5c269f138d7bd1f0a098aa28d3496a27a61401b9de414336032b6762d2", func := "loop.example/productprograms/laws.FnExactAllVar", spec := "fnExactAllVar", unfollowed := true, recurses := true, named := ["loop.example/productprograms/impl.strides"], apart := false, laid := [("loop.example/productprograms/impl.strides", laid_loop_example_productprograms_impl_strides)], narrowed := true }
def FnExactAllVarUptoSaid : Prop := fnExactAllVarUptoRow.holds Tryd.pinned (OpenSpec.upto fnExactAllVarSpec)

/-- 'laws.FnExactSomeVar', WHERE WHAT IT READS IS OF BULK AT MOST 1048576: true; the input reads as it did. -/
def fnExactSomeVarUptoRow : OpenClaim := { program := "ytdmfcbjjnjpniaadoor", sum := "48dd9f5c269f138d7bd1f0a098aa28d3496a27a61401b9de414336032b6762d2", func := "loop.example/productprograms/laws.FnExactSomeVar", spec := "fnExactSomeVar", unfollowed := true, recurses := true, named := ["loop.example/productprograms/impl.strides"], apart := false, laid := [("loop.example/productprograms/impl.strides", laid_loop_example_productprograms_impl_strides)], narrowed := true }
def FnExactSomeVarUptoSaid : Prop := fnExactSomeVarUptoRow.holds Tryd.pinned (OpenSpec.upto fnExactSomeVarSpec)

/-- 'laws.FnExactAgreeOn', WHERE WHAT IT READS IS OF BULK AT MOST 1048576: true; the input reads as it did. -/
def fnExactAgreeOnUptoRow : OpenClaim := { program := "ytdmfcbjjnjpniaadoor", sum := "48dd9f5c269f138d7bd1f0a098aa28d3496a27a61401b9de414336032b6762d2", func := "loop.example/productprograms/laws.FnExactAgreeOn", spec := "fnExactAgreeOn", unfollowed := true, recurses := true, named := ["loop.example/productprograms/impl.strides"], apart := false, laid := [("loop.example/productprograms/impl.strides", laid_loop_example_productprograms_impl_strides)], narrowed := true }
def FnExactAgreeOnUptoSaid : Prop := fnExactAgreeOnUptoRow.holds Tryd.pinned (OpenSpec.upto fnExactAgreeOnSpec)

end Rows
end Go.Proofs.YtdmfcbjjnjpniaaDoor
