/-
  No cell of these rows narrows 'for every input' (looked for: loops, veiled, ifaces, maps, wideKeys, modest, calm, conditions, laid).
  DERIVED. THE GIVEN ROWS OF THIS SEAT. 12 by the template 'for every input the law returns true; each argument reads behind the call as it read before'; 0 by the template 'total and deterministic' (their statements: YtflnmeelmnmclaaTotals.lean).
  GIVEN WITH THE SEED: the statements are not yours to turn. If you find one false, say at which input.
  Laid BY PROGRAM, IN A SANDBOX (cutbox-rows.mjs): the forced cells as the released guide's own fill.sh prints them over the translation a14a0e268d0292ce… (all of the seat's roots in one cut). By AI agents, Wed Nov 11 2026. No macro, syntax, notation, axiom, sorry.
-/
import Derived.Test.YtflnmeelmnmclaaChecked
import GoSem.Claim
import GoSem.ClaimJoined
import GoSem.ClaimMapViews
import Derived.JoinedTies
import Derived.KernelRfl
namespace Go.Proofs.Ytflnmeelmnmclaa
/- THE CELL 'sum', in the pinned program and in every row, IS THE sha256 OF THE DUMP (.gsa) THAT YtflnmeelmnmclaaProg.lean LOADS. Nothing in Lean hashes anything: it is a label: what it is worth is what the hold of that sum in a sandbox is worth. -/
noncomputable def Try.pinned : Pinned := { name := "ytflnmeelmnmclaa", sum := "a14a0e268d0292ce1540ec3675d32b934559e29150f730deccfc5d9a0624773f", checked := Try.checked }
namespace Rows
def none {H : Type} : Left H := { results := [], args := [] }

/-- 'laws.FnExactConstants': WHATEVER THE INPUT: true; the input reads as it did. -/
def fnExactConstantsSpec : ChangeSpec := { name := "fnExactConstants", fn := fun _ => fun
  | [] => { results := [.lit (.bool true)], args := [] }
  | _ => none }
def fnExactConstantsRow : OpenClaim := { program := "ytflnmeelmnmclaa", sum := "a14a0e268d0292ce1540ec3675d32b934559e29150f730deccfc5d9a0624773f", func := "loop.example/productprograms/laws.FnExactConstants", spec := "fnExactConstants", apart := false }
def FnExactConstantsSaid : Prop := fnExactConstantsRow.holds Try.pinned (OpenSpec.ofChange fnExactConstantsSpec)

/-- ITS FALSE NEIGHBOUR: 'it returns false'. Refute it at one input. -/
def fnExactConstantsWrong : ChangeSpec := { name := "fnExactConstants", fn := fun _ => fun
  | [] => { results := [.lit (.bool false)], args := [] }
  | _ => none }
def FnExactConstantsWrongFalsely : Prop := fnExactConstantsRow.holds Try.pinned (OpenSpec.ofChange fnExactConstantsWrong)

/-- 'laws.FnExactStateValid': WHATEVER THE INPUT: true; the input reads as it did. -/
def fnExactStateValidSpec : ChangeSpec := { name := "fnExactStateValid", fn := fun _ => fun
  | [d] => { results := [.lit (.bool true)], args := [d] }
  | _ => none }
def fnExactStateValidRow : OpenClaim := { program := "ytflnmeelmnmclaa", sum := "a14a0e268d0292ce1540ec3675d32b934559e29150f730deccfc5d9a0624773f", func := "loop.example/productprograms/laws.FnExactStateValid", spec := "fnExactStateValid", unfollowed := true, recurses := true, apart := false }
def FnExactStateValidSaid : Prop := fnExactStateValidRow.holds Try.pinned (OpenSpec.ofChange fnExactStateValidSpec)

/-- ITS FALSE NEIGHBOUR: 'it returns false'. Refute it at one input. -/
def fnExactStateValidWrong : ChangeSpec := { name := "fnExactStateValid", fn := fun _ => fun
  | [d] => { results := [.lit (.bool false)], args := [d] }
  | _ => none }
def FnExactStateValidWrongFalsely : Prop := fnExactStateValidRow.holds Try.pinned (OpenSpec.ofChange fnExactStateValidWrong)

/-- 'laws.FnExactPredValid': WHATEVER THE INPUT: true; the input reads as it did. -/
def fnExactPredValidSpec : ChangeSpec := { name := "fnExactPredValid", fn := fun _ => fun
  | [d] => { results := [.lit (.bool true)], args := [d] }
  | _ => none }
def fnExactPredValidRow : OpenClaim := { program := "ytflnmeelmnmclaa", sum := "a14a0e268d0292ce1540ec3675d32b934559e29150f730deccfc5d9a0624773f", func := "loop.example/productprograms/laws.FnExactPredValid", spec := "fnExactPredValid", apart := false }
def FnExactPredValidSaid : Prop := fnExactPredValidRow.holds Try.pinned (OpenSpec.ofChange fnExactPredValidSpec)

/-- ITS FALSE NEIGHBOUR: 'it returns false'. Refute it at one input. -/
def fnExactPredValidWrong : ChangeSpec := { name := "fnExactPredValid", fn := fun _ => fun
  | [d] => { results := [.lit (.bool false)], args := [d] }
  | _ => none }
def FnExactPredValidWrongFalsely : Prop := fnExactPredValidRow.holds Try.pinned (OpenSpec.ofChange fnExactPredValidWrong)

/-- 'laws.FnExactRelValid': WHATEVER THE INPUT: true; the input reads as it did. -/
def fnExactRelValidSpec : ChangeSpec := { name := "fnExactRelValid", fn := fun _ => fun
  | [d] => { results := [.lit (.bool true)], args := [d] }
  | _ => none }
def fnExactRelValidRow : OpenClaim := { program := "ytflnmeelmnmclaa", sum := "a14a0e268d0292ce1540ec3675d32b934559e29150f730deccfc5d9a0624773f", func := "loop.example/productprograms/laws.FnExactRelValid", spec := "fnExactRelValid", apart := false }
def FnExactRelValidSaid : Prop := fnExactRelValidRow.holds Try.pinned (OpenSpec.ofChange fnExactRelValidSpec)

/-- ITS FALSE NEIGHBOUR: 'it returns false'. Refute it at one input. -/
def fnExactRelValidWrong : ChangeSpec := { name := "fnExactRelValid", fn := fun _ => fun
  | [d] => { results := [.lit (.bool false)], args := [d] }
  | _ => none }
def FnExactRelValidWrongFalsely : Prop := fnExactRelValidRow.holds Try.pinned (OpenSpec.ofChange fnExactRelValidWrong)

/-- 'laws.FnExactStateAt': WHATEVER THE INPUT: true; the input reads as it did. -/
def fnExactStateAtSpec : ChangeSpec := { name := "fnExactStateAt", fn := fun _ => fun
  | [d] => { results := [.lit (.bool true)], args := [d] }
  | _ => none }
def fnExactStateAtRow : OpenClaim := { program := "ytflnmeelmnmclaa", sum := "a14a0e268d0292ce1540ec3675d32b934559e29150f730deccfc5d9a0624773f", func := "loop.example/productprograms/laws.FnExactStateAt", spec := "fnExactStateAt", apart := false }
def FnExactStateAtSaid : Prop := fnExactStateAtRow.holds Try.pinned (OpenSpec.ofChange fnExactStateAtSpec)

/-- ITS FALSE NEIGHBOUR: 'it returns false'. Refute it at one input. -/
def fnExactStateAtWrong : ChangeSpec := { name := "fnExactStateAt", fn := fun _ => fun
  | [d] => { results := [.lit (.bool false)], args := [d] }
  | _ => none }
def FnExactStateAtWrongFalsely : Prop := fnExactStateAtRow.holds Try.pinned (OpenSpec.ofChange fnExactStateAtWrong)

/-- 'laws.FnExactStateIndex': WHATEVER THE INPUT: true; the input reads as it did. -/
def fnExactStateIndexSpec : ChangeSpec := { name := "fnExactStateIndex", fn := fun _ => fun
  | [d] => { results := [.lit (.bool true)], args := [d] }
  | _ => none }
def fnExactStateIndexRow : OpenClaim := { program := "ytflnmeelmnmclaa", sum := "a14a0e268d0292ce1540ec3675d32b934559e29150f730deccfc5d9a0624773f", func := "loop.example/productprograms/laws.FnExactStateIndex", spec := "fnExactStateIndex", unfollowed := true, recurses := true, apart := false }
def FnExactStateIndexSaid : Prop := fnExactStateIndexRow.holds Try.pinned (OpenSpec.ofChange fnExactStateIndexSpec)

/-- ITS FALSE NEIGHBOUR: 'it returns false'. Refute it at one input. -/
def fnExactStateIndexWrong : ChangeSpec := { name := "fnExactStateIndex", fn := fun _ => fun
  | [d] => { results := [.lit (.bool false)], args := [d] }
  | _ => none }
def FnExactStateIndexWrongFalsely : Prop := fnExactStateIndexRow.holds Try.pinned (OpenSpec.ofChange fnExactStateIndexWrong)

/-- 'laws.FnExactFormatState': WHATEVER THE INPUT: true; the input reads as it did. -/
def fnExactFormatStateSpec : ChangeSpec := { name := "fnExactFormatState", fn := fun _ => fun
  | [d] => { results := [.lit (.bool true)], args := [d] }
  | _ => none }
def fnExactFormatStateRow : OpenClaim := { program := "ytflnmeelmnmclaa", sum := "a14a0e268d0292ce1540ec3675d32b934559e29150f730deccfc5d9a0624773f", func := "loop.example/productprograms/laws.FnExactFormatState", spec := "fnExactFormatState", unfollowed := true, recurses := true, apart := false }
def FnExactFormatStateSaid : Prop := fnExactFormatStateRow.holds Try.pinned (OpenSpec.ofChange fnExactFormatStateSpec)

/-- ITS FALSE NEIGHBOUR: 'it returns false'. Refute it at one input. -/
def fnExactFormatStateWrong : ChangeSpec := { name := "fnExactFormatState", fn := fun _ => fun
  | [d] => { results := [.lit (.bool false)], args := [d] }
  | _ => none }
def FnExactFormatStateWrongFalsely : Prop := fnExactFormatStateRow.holds Try.pinned (OpenSpec.ofChange fnExactFormatStateWrong)

/-- 'laws.FnExactRelWithin': WHATEVER THE INPUT: true; the input reads as it did. -/
def fnExactRelWithinSpec : ChangeSpec := { name := "fnExactRelWithin", fn := fun _ => fun
  | [d1, d2] => { results := [.lit (.bool true)], args := [d1, d2] }
  | _ => none }
def fnExactRelWithinRow : OpenClaim := { program := "ytflnmeelmnmclaa", sum := "a14a0e268d0292ce1540ec3675d32b934559e29150f730deccfc5d9a0624773f", func := "loop.example/productprograms/laws.FnExactRelWithin", spec := "fnExactRelWithin", apart := false }
def FnExactRelWithinSaid : Prop := fnExactRelWithinRow.holds Try.pinned (OpenSpec.ofChange fnExactRelWithinSpec)

/-- ITS FALSE NEIGHBOUR: 'it returns false'. Refute it at one input. -/
def fnExactRelWithinWrong : ChangeSpec := { name := "fnExactRelWithin", fn := fun _ => fun
  | [d1, d2] => { results := [.lit (.bool false)], args := [d1, d2] }
  | _ => none }
def FnExactRelWithinWrongFalsely : Prop := fnExactRelWithinRow.holds Try.pinned (OpenSpec.ofChange fnExactRelWithinWrong)

/-- 'laws.FnExactPredWithin': WHATEVER THE INPUT: true; the input reads as it did. -/
def fnExactPredWithinSpec : ChangeSpec := { name := "fnExactPredWithin", fn := fun _ => fun
  | [d1, d2] => { results := [.lit (.bool true)], args := [d1, d2] }
  | _ => none }
def fnExactPredWithinRow : OpenClaim := { program := "ytflnmeelmnmclaa", sum := "a14a0e268d0292ce1540ec3675d32b934559e29150f730deccfc5d9a0624773f", func := "loop.example/productprograms/laws.FnExactPredWithin", spec := "fnExactPredWithin", apart := false }
def FnExactPredWithinSaid : Prop := fnExactPredWithinRow.holds Try.pinned (OpenSpec.ofChange fnExactPredWithinSpec)

/-- ITS FALSE NEIGHBOUR: 'it returns false'. Refute it at one input. -/
def fnExactPredWithinWrong : ChangeSpec := { name := "fnExactPredWithin", fn := fun _ => fun
  | [d1, d2] => { results := [.lit (.bool false)], args := [d1, d2] }
  | _ => none }
def FnExactPredWithinWrongFalsely : Prop := fnExactPredWithinRow.holds Try.pinned (OpenSpec.ofChange fnExactPredWithinWrong)

/-- 'laws.FnExactHasState': WHATEVER THE INPUT: true; the input reads as it did. -/
def fnExactHasStateSpec : ChangeSpec := { name := "fnExactHasState", fn := fun _ => fun
  | [d1, d2] => { results := [.lit (.bool true)], args := [d1, d2] }
  | _ => none }
def fnExactHasStateRow : OpenClaim := { program := "ytflnmeelmnmclaa", sum := "a14a0e268d0292ce1540ec3675d32b934559e29150f730deccfc5d9a0624773f", func := "loop.example/productprograms/laws.FnExactHasState", spec := "fnExactHasState", unfollowed := true, recurses := true, apart := false }
def FnExactHasStateSaid : Prop := fnExactHasStateRow.holds Try.pinned (OpenSpec.ofChange fnExactHasStateSpec)

/-- ITS FALSE NEIGHBOUR: 'it returns false'. Refute it at one input. -/
def fnExactHasStateWrong : ChangeSpec := { name := "fnExactHasState", fn := fun _ => fun
  | [d1, d2] => { results := [.lit (.bool false)], args := [d1, d2] }
  | _ => none }
def FnExactHasStateWrongFalsely : Prop := fnExactHasStateRow.holds Try.pinned (OpenSpec.ofChange fnExactHasStateWrong)

/-- 'laws.FnExactHasPair': WHATEVER THE INPUT: true; the input reads as it did. -/
def fnExactHasPairSpec : ChangeSpec := { name := "fnExactHasPair", fn := fun _ => fun
  | [d1, d2, d3] => { results := [.lit (.bool true)], args := [d1, d2, d3] }
  | _ => none }
def fnExactHasPairRow : OpenClaim := { program := "ytflnmeelmnmclaa", sum := "a14a0e268d0292ce1540ec3675d32b934559e29150f730deccfc5d9a0624773f", func := "loop.example/productprograms/laws.FnExactHasPair", spec := "fnExactHasPair", unfollowed := true, recurses := true, apart := false }
def FnExactHasPairSaid : Prop := fnExactHasPairRow.holds Try.pinned (OpenSpec.ofChange fnExactHasPairSpec)

/-- ITS FALSE NEIGHBOUR: 'it returns false'. Refute it at one input. -/
def fnExactHasPairWrong : ChangeSpec := { name := "fnExactHasPair", fn := fun _ => fun
  | [d1, d2, d3] => { results := [.lit (.bool false)], args := [d1, d2, d3] }
  | _ => none }
def FnExactHasPairWrongFalsely : Prop := fnExactHasPairRow.holds Try.pinned (OpenSpec.ofChange fnExactHasPairWrong)

/-- 'laws.FnExactParseState': WHATEVER THE INPUT: true; the input reads as it did. -/
def fnExactParseStateSpec : ChangeSpec := { name := "fnExactParseState", fn := fun _ => fun
  | [d] => { results := [.lit (.bool true)], args := [d] }
  | _ => none }
def fnExactParseStateRow : OpenClaim := { program := "ytflnmeelmnmclaa", sum := "a14a0e268d0292ce1540ec3675d32b934559e29150f730deccfc5d9a0624773f", func := "loop.example/productprograms/laws.FnExactParseState", spec := "fnExactParseState", unfollowed := true, recurses := true, apart := false }
def FnExactParseStateSaid : Prop := fnExactParseStateRow.holds Try.pinned (OpenSpec.ofChange fnExactParseStateSpec)

/-- ITS FALSE NEIGHBOUR: 'it returns false'. Refute it at one input. -/
def fnExactParseStateWrong : ChangeSpec := { name := "fnExactParseState", fn := fun _ => fun
  | [d] => { results := [.lit (.bool false)], args := [d] }
  | _ => none }
def FnExactParseStateWrongFalsely : Prop := fnExactParseStateRow.holds Try.pinned (OpenSpec.ofChange fnExactParseStateWrong)

/- THE SECOND FORM. 'bulk': how many values and letters a reading holds, each counted each time it is reached (what is shared counts as often as it is met; a slice's spare places count too). A statement '..UptoSaid' is the law's where the arguments, and the package variables that the reading takes, are together of bulk at most 1048576: NARROWER than '..Said'. Prove '..Said' where nothing that the law and all that it calls make is longer than what came in: it says more and counts as full. Else prove '..UptoSaid'. A law counts once. -/
mutual
def uptoBulk {H : Type} : DataW H → Nat
  | .lit (.string bytes) => bytes.length + 1
  | .lit _ => 1
  | .nil => 1
  | .ptr d => uptoBulk d + 1
  | .slice elems spare => uptoBulkAll elems + uptoBulkAll spare + 1
  | .agg parts => uptoBulkAll parts + 1
  | .iface _ d => uptoBulk d + 1
  | .map entries => uptoBulkEntries entries + 1
  | .held _ => 1
def uptoBulkAll {H : Type} : List (DataW H) → Nat
  | [] => 0
  | d :: r => uptoBulk d + uptoBulkAll r
def uptoBulkEntries {H : Type} : List (Lit × DataW H) → Nat
  | [] => 0
  | x :: r => uptoBulkEntry x + uptoBulkEntries r
def uptoBulkEntry {H : Type} : Lit × DataW H → Nat
  | (.string bytes, d) => bytes.length + uptoBulk d + 1
  | (_, d) => uptoBulk d + 1
 end
def uptoSmall : (H : Type) → List (DataW H) → Bool := fun _ ds => decide (uptoBulkAll ds ≤ 1048576)
def OpenSpec.upto (s : _root_.Go.ChangeSpec) : _root_.Go.OpenSpec := { _root_.Go.OpenSpec.ofChange s with cond := some uptoSmall }

/-- 'laws.FnExactConstants', WHERE WHAT IT READS IS OF BULK AT MOST 1048576: true; the input reads as it did. -/
def fnExactConstantsUptoRow : OpenClaim := { program := "ytflnmeelmnmclaa", sum := "a14a0e268d0292ce1540ec3675d32b934559e29150f730deccfc5d9a0624773f", func := "loop.example/productprograms/laws.FnExactConstants", spec := "fnExactConstants", apart := false, narrowed := true }
def FnExactConstantsUptoSaid : Prop := fnExactConstantsUptoRow.holds Try.pinned (OpenSpec.upto fnExactConstantsSpec)

/-- 'laws.FnExactStateValid', WHERE WHAT IT READS IS OF BULK AT MOST 1048576: true; the input reads as it did. -/
def fnExactStateValidUptoRow : OpenClaim := { program := "ytflnmeelmnmclaa", sum := "a14a0e268d0292ce1540ec3675d32b934559e29150f730deccfc5d9a0624773f", func := "loop.example/productprograms/laws.FnExactStateValid", spec := "fnExactStateValid", unfollowed := true, recurses := true, apart := false, narrowed := true }
def FnExactStateValidUptoSaid : Prop := fnExactStateValidUptoRow.holds Try.pinned (OpenSpec.upto fnExactStateValidSpec)

/-- 'laws.FnExactPredValid', WHERE WHAT IT READS IS OF BULK AT MOST 1048576: true; the input reads as it did. -/
def fnExactPredValidUptoRow : OpenClaim := { program := "ytflnmeelmnmclaa", sum := "a14a0e268d0292ce1540ec3675d32b934559e29150f730deccfc5d9a0624773f", func := "loop.example/productprograms/laws.FnExactPredValid", spec := "fnExactPredValid", apart := false, narrowed := true }
def FnExactPredValidUptoSaid : Prop := fnExactPredValidUptoRow.holds Try.pinned (OpenSpec.upto fnExactPredValidSpec)

/-- 'laws.FnExactRelValid', WHERE WHAT IT READS IS OF BULK AT MOST 1048576: true; the input reads as it did. -/
def fnExactRelValidUptoRow : OpenClaim := { program := "ytflnmeelmnmclaa", sum := "a14a0e268d0292ce1540ec3675d32b934559e29150f730deccfc5d9a0624773f", func := "loop.example/productprograms/laws.FnExactRelValid", spec := "fnExactRelValid", apart := false, narrowed := true }
def FnExactRelValidUptoSaid : Prop := fnExactRelValidUptoRow.holds Try.pinned (OpenSpec.upto fnExactRelValidSpec)

/-- 'laws.FnExactStateAt', WHERE WHAT IT READS IS OF BULK AT MOST 1048576: true; the input reads as it did. -/
def fnExactStateAtUptoRow : OpenClaim := { program := "ytflnmeelmnmclaa", sum := "a14a0e268d0292ce1540ec3675d32b934559e29150f730deccfc5d9a0624773f", func := "loop.example/productprograms/laws.FnExactStateAt", spec := "fnExactStateAt", apart := false, narrowed := true }
def FnExactStateAtUptoSaid : Prop := fnExactStateAtUptoRow.holds Try.pinned (OpenSpec.upto fnExactStateAtSpec)

/-- 'laws.FnExactStateIndex', WHERE WHAT IT READS IS OF BULK AT MOST 1048576: true; the input reads as it did. -/
def fnExactStateIndexUptoRow : OpenClaim := { program := "ytflnmeelmnmclaa", sum := "a14a0e268d0292ce1540ec3675d32b934559e29150f730deccfc5d9a0624773f", func := "loop.example/productprograms/laws.FnExactStateIndex", spec := "fnExactStateIndex", unfollowed := true, recurses := true, apart := false, narrowed := true }
def FnExactStateIndexUptoSaid : Prop := fnExactStateIndexUptoRow.holds Try.pinned (OpenSpec.upto fnExactStateIndexSpec)

/-- 'laws.FnExactFormatState', WHERE WHAT IT READS IS OF BULK AT MOST 1048576: true; the input reads as it did. -/
def fnExactFormatStateUptoRow : OpenClaim := { program := "ytflnmeelmnmclaa", sum := "a14a0e268d0292ce1540ec3675d32b934559e29150f730deccfc5d9a0624773f", func := "loop.example/productprograms/laws.FnExactFormatState", spec := "fnExactFormatState", unfollowed := true, recurses := true, apart := false, narrowed := true }
def FnExactFormatStateUptoSaid : Prop := fnExactFormatStateUptoRow.holds Try.pinned (OpenSpec.upto fnExactFormatStateSpec)

/-- 'laws.FnExactRelWithin', WHERE WHAT IT READS IS OF BULK AT MOST 1048576: true; the input reads as it did. -/
def fnExactRelWithinUptoRow : OpenClaim := { program := "ytflnmeelmnmclaa", sum := "a14a0e268d0292ce1540ec3675d32b934559e29150f730deccfc5d9a0624773f", func := "loop.example/productprograms/laws.FnExactRelWithin", spec := "fnExactRelWithin", apart := false, narrowed := true }
def FnExactRelWithinUptoSaid : Prop := fnExactRelWithinUptoRow.holds Try.pinned (OpenSpec.upto fnExactRelWithinSpec)

/-- 'laws.FnExactPredWithin', WHERE WHAT IT READS IS OF BULK AT MOST 1048576: true; the input reads as it did. -/
def fnExactPredWithinUptoRow : OpenClaim := { program := "ytflnmeelmnmclaa", sum := "a14a0e268d0292ce1540ec3675d32b934559e29150f730deccfc5d9a0624773f", func := "loop.example/productprograms/laws.FnExactPredWithin", spec := "fnExactPredWithin", apart := false, narrowed := true }
def FnExactPredWithinUptoSaid : Prop := fnExactPredWithinUptoRow.holds Try.pinned (OpenSpec.upto fnExactPredWithinSpec)

/-- 'laws.FnExactHasState', WHERE WHAT IT READS IS OF BULK AT MOST 1048576: true; the input reads as it did. -/
def fnExactHasStateUptoRow : OpenClaim := { program := "ytflnmeelmnmclaa", sum := "a14a0e268d0292ce1540ec3675d32b934559e29150f730deccfc5d9a0624773f", func := "loop.example/productprograms/laws.FnExactHasState", spec := "fnExactHasState", unfollowed := true, recurses := true, apart := false, narrowed := true }
def FnExactHasStateUptoSaid : Prop := fnExactHasStateUptoRow.holds Try.pinned (OpenSpec.upto fnExactHasStateSpec)

/-- 'laws.FnExactHasPair', WHERE WHAT IT READS IS OF BULK AT MOST 1048576: true; the input reads as it did. -/
def fnExactHasPairUptoRow : OpenClaim := { program := "ytflnmeelmnmclaa", sum := "a14a0e268d0292ce1540ec3675d32b934559e29150f730deccfc5d9a0624773f", func := "loop.example/productprograms/laws.FnExactHasPair", spec := "fnExactHasPair", unfollowed := true, recurses := true, apart := false, narrowed := true }
def FnExactHasPairUptoSaid : Prop := fnExactHasPairUptoRow.holds Try.pinned (OpenSpec.upto fnExactHasPairSpec)

/-- 'laws.FnExactParseState', WHERE WHAT IT READS IS OF BULK AT MOST 1048576: true; the input reads as it did. -/
def fnExactParseStateUptoRow : OpenClaim := { program := "ytflnmeelmnmclaa", sum := "a14a0e268d0292ce1540ec3675d32b934559e29150f730deccfc5d9a0624773f", func := "loop.example/productprograms/laws.FnExactParseState", spec := "fnExactParseState", unfollowed := true, recurses := true, apart := false, narrowed := true }
def FnExactParseStateUptoSaid : Prop := fnExactParseStateUptoRow.holds Try.pinned (OpenSpec.upto fnExactParseStateSpec)

end Rows
end Go.Proofs.Ytflnmeelmnmclaa
