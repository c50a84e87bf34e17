/-
  No cell of these rows narrows 'for every input' (looked for: loops, veiled, ifaces, maps, wideKeys, modest, calm, conditions, laid).
  DERIVED. THE GIVEN ROWS OF THIS SEAT. 11 by the template 'for every input the law returns true; each argument reads behind the call as it read before'; 0 by the template 'total and deterministic' (their statements: YtinnkkhpgcmbhaaTotals.lean).
  GIVEN WITH THE SEED: the statements are not yours to turn. If you find one false, say at which input.
  Laid BY PROGRAM, IN A SANDBOX (cutbox-rows.mjs): the forced cells as the released guide's own fill.sh prints them over the translation eb1bab077839b954… (all of the seat's roots in one cut). By AI agents, Wed Nov 11 2026. No macro, syntax, notation, axiom, sorry.
-/
import Derived.Test.YtinnkkhpgcmbhaaChecked
import GoSem.Claim
import GoSem.ClaimJoined
import GoSem.ClaimMapViews
import Derived.JoinedTies
import Derived.KernelRfl
namespace Go.Proofs.Ytinnkkhpgcmbhaa
/- THE CELL 'sum', in the pinned program and in every row, IS THE sha256 OF THE DUMP (.gsa) THAT YtinnkkhpgcmbhaaProg.lean LOADS. Nothing in Lean hashes anything: it is a label: what it is worth is what the hold of that sum in a sandbox is worth. -/
noncomputable def Try.pinned : Pinned := { name := "ytinnkkhpgcmbhaa", sum := "eb1bab077839b9540c9d69d8db4d54281c1413fdae5f346dde173a2215852970", checked := Try.checked }
namespace Rows
def none {H : Type} : Left H := { results := [], args := [] }

/-- 'laws.FnExactAndPred': WHATEVER THE INPUT: true; the input reads as it did. -/
def fnExactAndPredSpec : ChangeSpec := { name := "fnExactAndPred", fn := fun _ => fun
  | [d1, d2] => { results := [.lit (.bool true)], args := [d1, d2] }
  | _ => none }
def fnExactAndPredRow : OpenClaim := { program := "ytinnkkhpgcmbhaa", sum := "eb1bab077839b9540c9d69d8db4d54281c1413fdae5f346dde173a2215852970", func := "loop.example/productprograms/laws.FnExactAndPred", spec := "fnExactAndPred", unfollowed := true, recurses := true, apart := false }
def FnExactAndPredSaid : Prop := fnExactAndPredRow.holds Try.pinned (OpenSpec.ofChange fnExactAndPredSpec)

/-- ITS FALSE NEIGHBOUR: 'it returns false'. Refute it at one input. -/
def fnExactAndPredWrong : ChangeSpec := { name := "fnExactAndPred", fn := fun _ => fun
  | [d1, d2] => { results := [.lit (.bool false)], args := [d1, d2] }
  | _ => none }
def FnExactAndPredWrongFalsely : Prop := fnExactAndPredRow.holds Try.pinned (OpenSpec.ofChange fnExactAndPredWrong)

/-- 'laws.FnExactNotPred': WHATEVER THE INPUT: true; the input reads as it did. -/
def fnExactNotPredSpec : ChangeSpec := { name := "fnExactNotPred", fn := fun _ => fun
  | [d] => { results := [.lit (.bool true)], args := [d] }
  | _ => none }
def fnExactNotPredRow : OpenClaim := { program := "ytinnkkhpgcmbhaa", sum := "eb1bab077839b9540c9d69d8db4d54281c1413fdae5f346dde173a2215852970", func := "loop.example/productprograms/laws.FnExactNotPred", spec := "fnExactNotPred", unfollowed := true, recurses := true, apart := false }
def FnExactNotPredSaid : Prop := fnExactNotPredRow.holds Try.pinned (OpenSpec.ofChange fnExactNotPredSpec)

/-- ITS FALSE NEIGHBOUR: 'it returns false'. Refute it at one input. -/
def fnExactNotPredWrong : ChangeSpec := { name := "fnExactNotPred", fn := fun _ => fun
  | [d] => { results := [.lit (.bool false)], args := [d] }
  | _ => none }
def FnExactNotPredWrongFalsely : Prop := fnExactNotPredRow.holds Try.pinned (OpenSpec.ofChange fnExactNotPredWrong)

/-- 'laws.FnExactOrPred': WHATEVER THE INPUT: true; the input reads as it did. -/
def fnExactOrPredSpec : ChangeSpec := { name := "fnExactOrPred", fn := fun _ => fun
  | [d1, d2] => { results := [.lit (.bool true)], args := [d1, d2] }
  | _ => none }
def fnExactOrPredRow : OpenClaim := { program := "ytinnkkhpgcmbhaa", sum := "eb1bab077839b9540c9d69d8db4d54281c1413fdae5f346dde173a2215852970", func := "loop.example/productprograms/laws.FnExactOrPred", spec := "fnExactOrPred", unfollowed := true, recurses := true, apart := false }
def FnExactOrPredSaid : Prop := fnExactOrPredRow.holds Try.pinned (OpenSpec.ofChange fnExactOrPredSpec)

/-- ITS FALSE NEIGHBOUR: 'it returns false'. Refute it at one input. -/
def fnExactOrPredWrong : ChangeSpec := { name := "fnExactOrPred", fn := fun _ => fun
  | [d1, d2] => { results := [.lit (.bool false)], args := [d1, d2] }
  | _ => none }
def FnExactOrPredWrongFalsely : Prop := fnExactOrPredRow.holds Try.pinned (OpenSpec.ofChange fnExactOrPredWrong)

/-- 'laws.FnExactAndRel': WHATEVER THE INPUT: true; the input reads as it did. -/
def fnExactAndRelSpec : ChangeSpec := { name := "fnExactAndRel", fn := fun _ => fun
  | [d1, d2] => { results := [.lit (.bool true)], args := [d1, d2] }
  | _ => none }
def fnExactAndRelRow : OpenClaim := { program := "ytinnkkhpgcmbhaa", sum := "eb1bab077839b9540c9d69d8db4d54281c1413fdae5f346dde173a2215852970", func := "loop.example/productprograms/laws.FnExactAndRel", spec := "fnExactAndRel", unfollowed := true, recurses := true, apart := false }
def FnExactAndRelSaid : Prop := fnExactAndRelRow.holds Try.pinned (OpenSpec.ofChange fnExactAndRelSpec)

/-- ITS FALSE NEIGHBOUR: 'it returns false'. Refute it at one input. -/
def fnExactAndRelWrong : ChangeSpec := { name := "fnExactAndRel", fn := fun _ => fun
  | [d1, d2] => { results := [.lit (.bool false)], args := [d1, d2] }
  | _ => none }
def FnExactAndRelWrongFalsely : Prop := fnExactAndRelRow.holds Try.pinned (OpenSpec.ofChange fnExactAndRelWrong)

/-- 'laws.FnExactNotRel': WHATEVER THE INPUT: true; the input reads as it did. -/
def fnExactNotRelSpec : ChangeSpec := { name := "fnExactNotRel", fn := fun _ => fun
  | [d] => { results := [.lit (.bool true)], args := [d] }
  | _ => none }
def fnExactNotRelRow : OpenClaim := { program := "ytinnkkhpgcmbhaa", sum := "eb1bab077839b9540c9d69d8db4d54281c1413fdae5f346dde173a2215852970", func := "loop.example/productprograms/laws.FnExactNotRel", spec := "fnExactNotRel", unfollowed := true, recurses := true, apart := false }
def FnExactNotRelSaid : Prop := fnExactNotRelRow.holds Try.pinned (OpenSpec.ofChange fnExactNotRelSpec)

/-- ITS FALSE NEIGHBOUR: 'it returns false'. Refute it at one input. -/
def fnExactNotRelWrong : ChangeSpec := { name := "fnExactNotRel", fn := fun _ => fun
  | [d] => { results := [.lit (.bool false)], args := [d] }
  | _ => none }
def FnExactNotRelWrongFalsely : Prop := fnExactNotRelRow.holds Try.pinned (OpenSpec.ofChange fnExactNotRelWrong)

/-- 'laws.FnExactOrRel': WHATEVER THE INPUT: true; the input reads as it did. -/
def fnExactOrRelSpec : ChangeSpec := { name := "fnExactOrRel", fn := fun _ => fun
  | [d1, d2] => { results := [.lit (.bool true)], args := [d1, d2] }
  | _ => none }
def fnExactOrRelRow : OpenClaim := { program := "ytinnkkhpgcmbhaa", sum := "eb1bab077839b9540c9d69d8db4d54281c1413fdae5f346dde173a2215852970", func := "loop.example/productprograms/laws.FnExactOrRel", spec := "fnExactOrRel", unfollowed := true, recurses := true, apart := false }
def FnExactOrRelSaid : Prop := fnExactOrRelRow.holds Try.pinned (OpenSpec.ofChange fnExactOrRelSpec)

/-- ITS FALSE NEIGHBOUR: 'it returns false'. Refute it at one input. -/
def fnExactOrRelWrong : ChangeSpec := { name := "fnExactOrRel", fn := fun _ => fun
  | [d1, d2] => { results := [.lit (.bool false)], args := [d1, d2] }
  | _ => none }
def FnExactOrRelWrongFalsely : Prop := fnExactOrRelRow.holds Try.pinned (OpenSpec.ofChange fnExactOrRelWrong)

/-- 'laws.FnExactSetVar': WHATEVER THE INPUT: true; the input reads as it did. -/
def fnExactSetVarSpec : ChangeSpec := { name := "fnExactSetVar", fn := fun _ => fun
  | [d1, d2, d3] => { results := [.lit (.bool true)], args := [d1, d2, d3] }
  | _ => none }
def fnExactSetVarRow : OpenClaim := { program := "ytinnkkhpgcmbhaa", sum := "eb1bab077839b9540c9d69d8db4d54281c1413fdae5f346dde173a2215852970", func := "loop.example/productprograms/laws.FnExactSetVar", spec := "fnExactSetVar", unfollowed := true, recurses := true, apart := false }
def FnExactSetVarSaid : Prop := fnExactSetVarRow.holds Try.pinned (OpenSpec.ofChange fnExactSetVarSpec)

/-- ITS FALSE NEIGHBOUR: 'it returns false'. Refute it at one input. -/
def fnExactSetVarWrong : ChangeSpec := { name := "fnExactSetVar", fn := fun _ => fun
  | [d1, d2, d3] => { results := [.lit (.bool false)], args := [d1, d2, d3] }
  | _ => none }
def FnExactSetVarWrongFalsely : Prop := fnExactSetVarRow.holds Try.pinned (OpenSpec.ofChange fnExactSetVarWrong)

/-- 'laws.FnExactFirstState': WHATEVER THE INPUT: true; the input reads as it did. -/
def fnExactFirstStateSpec : ChangeSpec := { name := "fnExactFirstState", fn := fun _ => fun
  | [d] => { results := [.lit (.bool true)], args := [d] }
  | _ => none }
def fnExactFirstStateRow : OpenClaim := { program := "ytinnkkhpgcmbhaa", sum := "eb1bab077839b9540c9d69d8db4d54281c1413fdae5f346dde173a2215852970", func := "loop.example/productprograms/laws.FnExactFirstState", spec := "fnExactFirstState", inPlace := ["internal/bytealg.IndexByteString"], apart := false }
def FnExactFirstStateSaid : Prop := fnExactFirstStateRow.holds Try.pinned (OpenSpec.ofChange fnExactFirstStateSpec)

/-- ITS FALSE NEIGHBOUR: 'it returns false'. Refute it at one input. -/
def fnExactFirstStateWrong : ChangeSpec := { name := "fnExactFirstState", fn := fun _ => fun
  | [d] => { results := [.lit (.bool false)], args := [d] }
  | _ => none }
def FnExactFirstStateWrongFalsely : Prop := fnExactFirstStateRow.holds Try.pinned (OpenSpec.ofChange fnExactFirstStateWrong)

/-- 'laws.FnExactFirstPair': WHATEVER THE INPUT: true; the input reads as it did. -/
def fnExactFirstPairSpec : ChangeSpec := { name := "fnExactFirstPair", fn := fun _ => fun
  | [d] => { results := [.lit (.bool true)], args := [d] }
  | _ => none }
def fnExactFirstPairRow : OpenClaim := { program := "ytinnkkhpgcmbhaa", sum := "eb1bab077839b9540c9d69d8db4d54281c1413fdae5f346dde173a2215852970", func := "loop.example/productprograms/laws.FnExactFirstPair", spec := "fnExactFirstPair", inPlace := ["internal/bytealg.IndexByteString"], apart := false }
def FnExactFirstPairSaid : Prop := fnExactFirstPairRow.holds Try.pinned (OpenSpec.ofChange fnExactFirstPairSpec)

/-- ITS FALSE NEIGHBOUR: 'it returns false'. Refute it at one input. -/
def fnExactFirstPairWrong : ChangeSpec := { name := "fnExactFirstPair", fn := fun _ => fun
  | [d] => { results := [.lit (.bool false)], args := [d] }
  | _ => none }
def FnExactFirstPairWrongFalsely : Prop := fnExactFirstPairRow.holds Try.pinned (OpenSpec.ofChange fnExactFirstPairWrong)

/-- 'laws.FnExactCountPred': WHATEVER THE INPUT: true; the input reads as it did. -/
def fnExactCountPredSpec : ChangeSpec := { name := "fnExactCountPred", fn := fun _ => fun
  | [d] => { results := [.lit (.bool true)], args := [d] }
  | _ => none }
def fnExactCountPredRow : OpenClaim := { program := "ytinnkkhpgcmbhaa", sum := "eb1bab077839b9540c9d69d8db4d54281c1413fdae5f346dde173a2215852970", func := "loop.example/productprograms/laws.FnExactCountPred", spec := "fnExactCountPred", inPlace := ["internal/bytealg.CountString", "internal/bytealg.IndexByteString", "internal/bytealg.IndexString"], named := ["internal/bytealg.MaxLen"], apart := false }
def FnExactCountPredSaid : Prop := fnExactCountPredRow.holds Try.pinned (OpenSpec.ofChange fnExactCountPredSpec)

/-- ITS FALSE NEIGHBOUR: 'it returns false'. Refute it at one input. -/
def fnExactCountPredWrong : ChangeSpec := { name := "fnExactCountPred", fn := fun _ => fun
  | [d] => { results := [.lit (.bool false)], args := [d] }
  | _ => none }
def FnExactCountPredWrongFalsely : Prop := fnExactCountPredRow.holds Try.pinned (OpenSpec.ofChange fnExactCountPredWrong)

/-- 'laws.FnExactCountRel': WHATEVER THE INPUT: true; the input reads as it did. -/
def fnExactCountRelSpec : ChangeSpec := { name := "fnExactCountRel", fn := fun _ => fun
  | [d] => { results := [.lit (.bool true)], args := [d] }
  | _ => none }
def fnExactCountRelRow : OpenClaim := { program := "ytinnkkhpgcmbhaa", sum := "eb1bab077839b9540c9d69d8db4d54281c1413fdae5f346dde173a2215852970", func := "loop.example/productprograms/laws.FnExactCountRel", spec := "fnExactCountRel", inPlace := ["internal/bytealg.CountString", "internal/bytealg.IndexByteString", "internal/bytealg.IndexString"], named := ["internal/bytealg.MaxLen"], apart := false }
def FnExactCountRelSaid : Prop := fnExactCountRelRow.holds Try.pinned (OpenSpec.ofChange fnExactCountRelSpec)

/-- ITS FALSE NEIGHBOUR: 'it returns false'. Refute it at one input. -/
def fnExactCountRelWrong : ChangeSpec := { name := "fnExactCountRel", fn := fun _ => fun
  | [d] => { results := [.lit (.bool false)], args := [d] }
  | _ => none }
def FnExactCountRelWrongFalsely : Prop := fnExactCountRelRow.holds Try.pinned (OpenSpec.ofChange fnExactCountRelWrong)

/- THE SECOND FORM. 'bulk': how many values and letters a reading holds, each counted each time it is reached (what is shared counts as often as it is met; a slice's spare places count too). A statement '..UptoSaid' is the law's where the arguments, and the package variables that the reading takes, are together of bulk at most 1048576: NARROWER than '..Said'. Prove '..Said' where nothing that the law and all that it calls make is longer than what came in: it says more and counts as full. Else prove '..UptoSaid'. A law counts once. -/
mutual
def uptoBulk {H : Type} : DataW H → Nat
  | .lit (.string bytes) => bytes.length + 1
  | .lit _ => 1
  | .nil => 1
  | .ptr d => uptoBulk d + 1
  | .slice elems spare => uptoBulkAll elems + uptoBulkAll spare + 1
  | .agg parts => uptoBulkAll parts + 1
  | .iface _ d => uptoBulk d + 1
  | .map entries => uptoBulkEntries entries + 1
  | .held _ => 1
def uptoBulkAll {H : Type} : List (DataW H) → Nat
  | [] => 0
  | d :: r => uptoBulk d + uptoBulkAll r
def uptoBulkEntries {H : Type} : List (Lit × DataW H) → Nat
  | [] => 0
  | x :: r => uptoBulkEntry x + uptoBulkEntries r
def uptoBulkEntry {H : Type} : Lit × DataW H → Nat
  | (.string bytes, d) => bytes.length + uptoBulk d + 1
  | (_, d) => uptoBulk d + 1
 end
def uptoSmall : (H : Type) → List (DataW H) → Bool := fun _ ds => decide (uptoBulkAll ds ≤ 1048576)
def OpenSpec.upto (s : _root_.Go.ChangeSpec) : _root_.Go.OpenSpec := { _root_.Go.OpenSpec.ofChange s with cond := some uptoSmall }

/-- 'laws.FnExactAndPred', WHERE WHAT IT READS IS OF BULK AT MOST 1048576: true; the input reads as it did. -/
def fnExactAndPredUptoRow : OpenClaim := { program := "ytinnkkhpgcmbhaa", sum := "eb1bab077839b9540c9d69d8db4d54281c1413fdae5f346dde173a2215852970", func := "loop.example/productprograms/laws.FnExactAndPred", spec := "fnExactAndPred", unfollowed := true, recurses := true, apart := false, narrowed := true }
def FnExactAndPredUptoSaid : Prop := fnExactAndPredUptoRow.holds Try.pinned (OpenSpec.upto fnExactAndPredSpec)

/-- 'laws.FnExactNotPred', WHERE WHAT IT READS IS OF BULK AT MOST 1048576: true; the input reads as it did. -/
def fnExactNotPredUptoRow : OpenClaim := { program := "ytinnkkhpgcmbhaa", sum := "eb1bab077839b9540c9d69d8db4d54281c1413fdae5f346dde173a2215852970", func := "loop.example/productprograms/laws.FnExactNotPred", spec := "fnExactNotPred", unfollowed := true, recurses := true, apart := false, narrowed := true }
def FnExactNotPredUptoSaid : Prop := fnExactNotPredUptoRow.holds Try.pinned (OpenSpec.upto fnExactNotPredSpec)

/-- 'laws.FnExactOrPred', WHERE WHAT IT READS IS OF BULK AT MOST 1048576: true; the input reads as it did. -/
def fnExactOrPredUptoRow : OpenClaim := { program := "ytinnkkhpgcmbhaa", sum := "eb1bab077839b9540c9d69d8db4d54281c1413fdae5f346dde173a2215852970", func := "loop.example/productprograms/laws.FnExactOrPred", spec := "fnExactOrPred", unfollowed := true, recurses := true, apart := false, narrowed := true }
def FnExactOrPredUptoSaid : Prop := fnExactOrPredUptoRow.holds Try.pinned (OpenSpec.upto fnExactOrPredSpec)

/-- 'laws.FnExactAndRel', WHERE WHAT IT READS IS OF BULK AT MOST 1048576: true; the input reads as it did. -/
def fnExactAndRelUptoRow : OpenClaim := { program := "ytinnkkhpgcmbhaa", sum := "eb1bab077839b9540c9d69d8db4d54281c1413fdae5f346dde173a2215852970", func := "loop.example/productprograms/laws.FnExactAndRel", spec := "fnExactAndRel", unfollowed := true, recurses := true, apart := false, narrowed := true }
def FnExactAndRelUptoSaid : Prop := fnExactAndRelUptoRow.holds Try.pinned (OpenSpec.upto fnExactAndRelSpec)

/-- 'laws.FnExactNotRel', WHERE WHAT IT READS IS OF BULK AT MOST 1048576: true; the input reads as it did. -/
def fnExactNotRelUptoRow : OpenClaim := { program := "ytinnkkhpgcmbhaa", sum := "eb1bab077839b9540c9d69d8db4d54281c1413fdae5f346dde173a2215852970", func := "loop.example/productprograms/laws.FnExactNotRel", spec := "fnExactNotRel", unfollowed := true, recurses := true, apart := false, narrowed := true }
def FnExactNotRelUptoSaid : Prop := fnExactNotRelUptoRow.holds Try.pinned (OpenSpec.upto fnExactNotRelSpec)

/-- 'laws.FnExactOrRel', WHERE WHAT IT READS IS OF BULK AT MOST 1048576: true; the input reads as it did. -/
def fnExactOrRelUptoRow : OpenClaim := { program := "ytinnkkhpgcmbhaa", sum := "eb1bab077839b9540c9d69d8db4d54281c1413fdae5f346dde173a2215852970", func := "loop.example/productprograms/laws.FnExactOrRel", spec := "fnExactOrRel", unfollowed := true, recurses := true, apart := false, narrowed := true }
def FnExactOrRelUptoSaid : Prop := fnExactOrRelUptoRow.holds Try.pinned (OpenSpec.upto fnExactOrRelSpec)

/-- 'laws.FnExactSetVar', WHERE WHAT IT READS IS OF BULK AT MOST 1048576: true; the input reads as it did. -/
def fnExactSetVarUptoRow : OpenClaim := { program := "ytinnkkhpgcmbhaa", sum := "eb1bab077839b9540c9d69d8db4d54281c1413fdae5f346dde173a2215852970", func := "loop.example/productprograms/laws.FnExactSetVar", spec := "fnExactSetVar", unfollowed := true, recurses := true, apart := false, narrowed := true }
def FnExactSetVarUptoSaid : Prop := fnExactSetVarUptoRow.holds Try.pinned (OpenSpec.upto fnExactSetVarSpec)

/-- 'laws.FnExactFirstState', WHERE WHAT IT READS IS OF BULK AT MOST 1048576: true; the input reads as it did. -/
def fnExactFirstStateUptoRow : OpenClaim := { program := "ytinnkkhpgcmbhaa", sum := "eb1bab077839b9540c9d69d8db4d54281c1413fdae5f346dde173a2215852970", func := "loop.example/productprograms/laws.FnExactFirstState", spec := "fnExactFirstState", inPlace := ["internal/bytealg.IndexByteString"], apart := false, narrowed := true }
def FnExactFirstStateUptoSaid : Prop := fnExactFirstStateUptoRow.holds Try.pinned (OpenSpec.upto fnExactFirstStateSpec)

/-- 'laws.FnExactFirstPair', WHERE WHAT IT READS IS OF BULK AT MOST 1048576: true; the input reads as it did. -/
def fnExactFirstPairUptoRow : OpenClaim := { program := "ytinnkkhpgcmbhaa", sum := "eb1bab077839b9540c9d69d8db4d54281c1413fdae5f346dde173a2215852970", func := "loop.example/productprograms/laws.FnExactFirstPair", spec := "fnExactFirstPair", inPlace := ["internal/bytealg.IndexByteString"], apart := false, narrowed := true }
def FnExactFirstPairUptoSaid : Prop := fnExactFirstPairUptoRow.holds Try.pinned (OpenSpec.upto fnExactFirstPairSpec)

/-- 'laws.FnExactCountPred', WHERE WHAT IT READS IS OF BULK AT MOST 1048576: true; the input reads as it did. -/
def fnExactCountPredUptoRow : OpenClaim := { program := "ytinnkkhpgcmbhaa", sum := "eb1bab077839b9540c9d69d8db4d54281c1413fdae5f346dde173a2215852970", func := "loop.example/productprograms/laws.FnExactCountPred", spec := "fnExactCountPred", inPlace := ["internal/bytealg.CountString", "internal/bytealg.IndexByteString", "internal/bytealg.IndexString"], named := ["internal/bytealg.MaxLen"], apart := false, narrowed := true }
def FnExactCountPredUptoSaid : Prop := fnExactCountPredUptoRow.holds Try.pinned (OpenSpec.upto fnExactCountPredSpec)

/-- 'laws.FnExactCountRel', WHERE WHAT IT READS IS OF BULK AT MOST 1048576: true; the input reads as it did. -/
def fnExactCountRelUptoRow : OpenClaim := { program := "ytinnkkhpgcmbhaa", sum := "eb1bab077839b9540c9d69d8db4d54281c1413fdae5f346dde173a2215852970", func := "loop.example/productprograms/laws.FnExactCountRel", spec := "fnExactCountRel", inPlace := ["internal/bytealg.CountString", "internal/bytealg.IndexByteString", "internal/bytealg.IndexString"], named := ["internal/bytealg.MaxLen"], apart := false, narrowed := true }
def FnExactCountRelUptoSaid : Prop := fnExactCountRelUptoRow.holds Try.pinned (OpenSpec.upto fnExactCountRelSpec)

end Rows
end Go.Proofs.Ytinnkkhpgcmbhaa
