/-
  No cell of these rows narrows 'for every input' (looked for: loops, veiled, ifaces, maps, wideKeys, modest, calm, conditions, laid).
  DERIVED. THE GIVEN ROWS OF THIS SEAT. 7 by the template 'for every input the law returns true; each argument reads behind the call as it read before'; 0 by the template 'total and deterministic' (their statements: YtnamdobckkhceaaTotals.lean).
  GIVEN WITH THE SEED: the statements are not yours to turn. If you find one false, say at which input.
  Laid BY PROGRAM, IN A SANDBOX (cutbox-rows.mjs): the forced cells as the released guide's own fill.sh prints them over the translation 7f1f10e4f30db0a5… (all of the seat's roots in one cut). By AI agents, Wed Nov 11 2026. No macro, syntax, notation, axiom, sorry.
-/
import Derived.Test.YtnamdobckkhceaaChecked
import GoSem.Claim
import GoSem.ClaimJoined
import GoSem.ClaimMapViews
import Derived.JoinedTies
import Derived.KernelRfl
namespace Go.Proofs.Ytnamdobckkhceaa
/- THE CELL 'sum', in the pinned program and in every row, IS THE sha256 OF THE DUMP (.gsa) THAT YtnamdobckkhceaaProg.lean LOADS. Nothing in Lean hashes anything: it is a label: what it is worth is what the hold of that sum in a sandbox is worth. -/
noncomputable def Try.pinned : Pinned := { name := "ytnamdobckkhceaa", sum := "7f1f10e4f30db0a538ef50941a79948e1680cdb05f2a6da774944ef4523c748d", checked := Try.checked }
namespace Rows
def none {H : Type} : Left H := { results := [], args := [] }

/-- 'laws.FnExactShadowOf': WHATEVER THE INPUT: true; the input reads as it did. -/
def fnExactShadowOfSpec : ChangeSpec := { name := "fnExactShadowOf", fn := fun _ => fun
  | [d1, d2] => { results := [.lit (.bool true)], args := [d1, d2] }
  | _ => none }
def fnExactShadowOfRow : OpenClaim := { program := "ytnamdobckkhceaa", sum := "7f1f10e4f30db0a538ef50941a79948e1680cdb05f2a6da774944ef4523c748d", func := "loop.example/productprograms/laws.FnExactShadowOf", spec := "fnExactShadowOf", unfollowed := true, recurses := true, apart := false }
def FnExactShadowOfSaid : Prop := fnExactShadowOfRow.holds Try.pinned (OpenSpec.ofChange fnExactShadowOfSpec)

/-- ITS FALSE NEIGHBOUR: 'it returns false'. Refute it at one input. -/
def fnExactShadowOfWrong : ChangeSpec := { name := "fnExactShadowOf", fn := fun _ => fun
  | [d1, d2] => { results := [.lit (.bool false)], args := [d1, d2] }
  | _ => none }
def FnExactShadowOfWrongFalsely : Prop := fnExactShadowOfRow.holds Try.pinned (OpenSpec.ofChange fnExactShadowOfWrong)

/-- 'laws.FnExactImageOf': WHATEVER THE INPUT: true; the input reads as it did. -/
def fnExactImageOfSpec : ChangeSpec := { name := "fnExactImageOf", fn := fun _ => fun
  | [d1, d2] => { results := [.lit (.bool true)], args := [d1, d2] }
  | _ => none }
def fnExactImageOfRow : OpenClaim := { program := "ytnamdobckkhceaa", sum := "7f1f10e4f30db0a538ef50941a79948e1680cdb05f2a6da774944ef4523c748d", func := "loop.example/productprograms/laws.FnExactImageOf", spec := "fnExactImageOf", unfollowed := true, recurses := true, apart := false }
def FnExactImageOfSaid : Prop := fnExactImageOfRow.holds Try.pinned (OpenSpec.ofChange fnExactImageOfSpec)

/-- ITS FALSE NEIGHBOUR: 'it returns false'. Refute it at one input. -/
def fnExactImageOfWrong : ChangeSpec := { name := "fnExactImageOf", fn := fun _ => fun
  | [d1, d2] => { results := [.lit (.bool false)], args := [d1, d2] }
  | _ => none }
def FnExactImageOfWrongFalsely : Prop := fnExactImageOfRow.holds Try.pinned (OpenSpec.ofChange fnExactImageOfWrong)

/-- 'laws.FnExactTurnRel': WHATEVER THE INPUT: true; the input reads as it did. -/
def fnExactTurnRelSpec : ChangeSpec := { name := "fnExactTurnRel", fn := fun _ => fun
  | [d] => { results := [.lit (.bool true)], args := [d] }
  | _ => none }
def fnExactTurnRelRow : OpenClaim := { program := "ytnamdobckkhceaa", sum := "7f1f10e4f30db0a538ef50941a79948e1680cdb05f2a6da774944ef4523c748d", func := "loop.example/productprograms/laws.FnExactTurnRel", spec := "fnExactTurnRel", unfollowed := true, recurses := true, apart := false }
def FnExactTurnRelSaid : Prop := fnExactTurnRelRow.holds Try.pinned (OpenSpec.ofChange fnExactTurnRelSpec)

/-- ITS FALSE NEIGHBOUR: 'it returns false'. Refute it at one input. -/
def fnExactTurnRelWrong : ChangeSpec := { name := "fnExactTurnRel", fn := fun _ => fun
  | [d] => { results := [.lit (.bool false)], args := [d] }
  | _ => none }
def FnExactTurnRelWrongFalsely : Prop := fnExactTurnRelRow.holds Try.pinned (OpenSpec.ofChange fnExactTurnRelWrong)

/-- 'laws.FnStateNumber': WHATEVER THE INPUT: true; the input reads as it did. -/
def fnStateNumberSpec : ChangeSpec := { name := "fnStateNumber", fn := fun _ => fun
  | [d] => { results := [.lit (.bool true)], args := [d] }
  | _ => none }
def fnStateNumberRow : OpenClaim := { program := "ytnamdobckkhceaa", sum := "7f1f10e4f30db0a538ef50941a79948e1680cdb05f2a6da774944ef4523c748d", func := "loop.example/productprograms/laws.FnStateNumber", spec := "fnStateNumber", unfollowed := true, recurses := true, apart := false }
def FnStateNumberSaid : Prop := fnStateNumberRow.holds Try.pinned (OpenSpec.ofChange fnStateNumberSpec)

/-- ITS FALSE NEIGHBOUR: 'it returns false'. Refute it at one input. -/
def fnStateNumberWrong : ChangeSpec := { name := "fnStateNumber", fn := fun _ => fun
  | [d] => { results := [.lit (.bool false)], args := [d] }
  | _ => none }
def FnStateNumberWrongFalsely : Prop := fnStateNumberRow.holds Try.pinned (OpenSpec.ofChange fnStateNumberWrong)

/-- 'laws.FnExactComposeRel': WHATEVER THE INPUT: true; the input reads as it did. -/
def fnExactComposeRelSpec : ChangeSpec := { name := "fnExactComposeRel", fn := fun _ => fun
  | [d1, d2] => { results := [.lit (.bool true)], args := [d1, d2] }
  | _ => none }
def fnExactComposeRelRow : OpenClaim := { program := "ytnamdobckkhceaa", sum := "7f1f10e4f30db0a538ef50941a79948e1680cdb05f2a6da774944ef4523c748d", func := "loop.example/productprograms/laws.FnExactComposeRel", spec := "fnExactComposeRel", unfollowed := true, recurses := true, apart := false }
def FnExactComposeRelSaid : Prop := fnExactComposeRelRow.holds Try.pinned (OpenSpec.ofChange fnExactComposeRelSpec)

/-- ITS FALSE NEIGHBOUR: 'it returns false'. Refute it at one input. -/
def fnExactComposeRelWrong : ChangeSpec := { name := "fnExactComposeRel", fn := fun _ => fun
  | [d1, d2] => { results := [.lit (.bool false)], args := [d1, d2] }
  | _ => none }
def FnExactComposeRelWrongFalsely : Prop := fnExactComposeRelRow.holds Try.pinned (OpenSpec.ofChange fnExactComposeRelWrong)

/-- 'laws.FnExactCloseRel': WHATEVER THE INPUT: true; the input reads as it did. -/
def fnExactCloseRelSpec : ChangeSpec := { name := "fnExactCloseRel", fn := fun _ => fun
  | [d] => { results := [.lit (.bool true)], args := [d] }
  | _ => none }
def fnExactCloseRelRow : OpenClaim := { program := "ytnamdobckkhceaa", sum := "7f1f10e4f30db0a538ef50941a79948e1680cdb05f2a6da774944ef4523c748d", func := "loop.example/productprograms/laws.FnExactCloseRel", spec := "fnExactCloseRel", unfollowed := true, recurses := true, apart := false }
def FnExactCloseRelSaid : Prop := fnExactCloseRelRow.holds Try.pinned (OpenSpec.ofChange fnExactCloseRelSpec)

/-- ITS FALSE NEIGHBOUR: 'it returns false'. Refute it at one input. -/
def fnExactCloseRelWrong : ChangeSpec := { name := "fnExactCloseRel", fn := fun _ => fun
  | [d] => { results := [.lit (.bool false)], args := [d] }
  | _ => none }
def FnExactCloseRelWrongFalsely : Prop := fnExactCloseRelRow.holds Try.pinned (OpenSpec.ofChange fnExactCloseRelWrong)

/-- 'laws.FnExactIsEquivalence': WHATEVER THE INPUT: true; the input reads as it did. -/
def fnExactIsEquivalenceSpec : ChangeSpec := { name := "fnExactIsEquivalence", fn := fun _ => fun
  | [d] => { results := [.lit (.bool true)], args := [d] }
  | _ => none }
def fnExactIsEquivalenceRow : OpenClaim := { program := "ytnamdobckkhceaa", sum := "7f1f10e4f30db0a538ef50941a79948e1680cdb05f2a6da774944ef4523c748d", func := "loop.example/productprograms/laws.FnExactIsEquivalence", spec := "fnExactIsEquivalence", unfollowed := true, recurses := true, apart := false }
def FnExactIsEquivalenceSaid : Prop := fnExactIsEquivalenceRow.holds Try.pinned (OpenSpec.ofChange fnExactIsEquivalenceSpec)

/-- ITS FALSE NEIGHBOUR: 'it returns false'. Refute it at one input. -/
def fnExactIsEquivalenceWrong : ChangeSpec := { name := "fnExactIsEquivalence", fn := fun _ => fun
  | [d] => { results := [.lit (.bool false)], args := [d] }
  | _ => none }
def FnExactIsEquivalenceWrongFalsely : Prop := fnExactIsEquivalenceRow.holds Try.pinned (OpenSpec.ofChange fnExactIsEquivalenceWrong)

/- THE SECOND FORM. 'bulk': how many values and letters a reading holds, each counted each time it is reached (what is shared counts as often as it is met; a slice's spare places count too). A statement '..UptoSaid' is the law's where the arguments, and the package variables that the reading takes, are together of bulk at most 1048576: NARROWER than '..Said'. Prove '..Said' where nothing that the law and all that it calls make is longer than what came in: it says more and counts as full. Else prove '..UptoSaid'. A law counts once. -/
mutual
def uptoBulk {H : Type} : DataW H → Nat
  | .lit (.string bytes) => bytes.length + 1
  | .lit _ => 1
  | .nil => 1
  | .ptr d => uptoBulk d + 1
  | .slice elems spare => uptoBulkAll elems + uptoBulkAll spare + 1
  | .agg parts => uptoBulkAll parts + 1
  | .iface _ d => uptoBulk d + 1
  | .map entries => uptoBulkEntries entries + 1
  | .held _ => 1
def uptoBulkAll {H : Type} : List (DataW H) → Nat
  | [] => 0
  | d :: r => uptoBulk d + uptoBulkAll r
def uptoBulkEntries {H : Type} : List (Lit × DataW H) → Nat
  | [] => 0
  | x :: r => uptoBulkEntry x + uptoBulkEntries r
def uptoBulkEntry {H : Type} : Lit × DataW H → Nat
  | (.string bytes, d) => bytes.length + uptoBulk d + 1
  | (_, d) => uptoBulk d + 1
 end
def uptoSmall : (H : Type) → List (DataW H) → Bool := fun _ ds => decide (uptoBulkAll ds ≤ 1048576)
def OpenSpec.upto (s : _root_.Go.ChangeSpec) : _root_.Go.OpenSpec := { _root_.Go.OpenSpec.ofChange s with cond := some uptoSmall }

/-- 'laws.FnExactShadowOf', WHERE WHAT IT READS IS OF BULK AT MOST 1048576: true; the input reads as it did. -/
def fnExactShadowOfUptoRow : OpenClaim := { program := "ytnamdobckkhceaa", sum := "7f1f10e4f30db0a538ef50941a79948e1680cdb05f2a6da774944ef4523c748d", func := "loop.example/productprograms/laws.FnExactShadowOf", spec := "fnExactShadowOf", unfollowed := true, recurses := true, apart := false, narrowed := true }
def FnExactShadowOfUptoSaid : Prop := fnExactShadowOfUptoRow.holds Try.pinned (OpenSpec.upto fnExactShadowOfSpec)

/-- 'laws.FnExactImageOf', WHERE WHAT IT READS IS OF BULK AT MOST 1048576: true; the input reads as it did. -/
def fnExactImageOfUptoRow : OpenClaim := { program := "ytnamdobckkhceaa", sum := "7f1f10e4f30db0a538ef50941a79948e1680cdb05f2a6da774944ef4523c748d", func := "loop.example/productprograms/laws.FnExactImageOf", spec := "fnExactImageOf", unfollowed := true, recurses := true, apart := false, narrowed := true }
def FnExactImageOfUptoSaid : Prop := fnExactImageOfUptoRow.holds Try.pinned (OpenSpec.upto fnExactImageOfSpec)

/-- 'laws.FnExactTurnRel', WHERE WHAT IT READS IS OF BULK AT MOST 1048576: true; the input reads as it did. -/
def fnExactTurnRelUptoRow : OpenClaim := { program := "ytnamdobckkhceaa", sum := "7f1f10e4f30db0a538ef50941a79948e1680cdb05f2a6da774944ef4523c748d", func := "loop.example/productprograms/laws.FnExactTurnRel", spec := "fnExactTurnRel", unfollowed := true, recurses := true, apart := false, narrowed := true }
def FnExactTurnRelUptoSaid : Prop := fnExactTurnRelUptoRow.holds Try.pinned (OpenSpec.upto fnExactTurnRelSpec)

/-- 'laws.FnStateNumber', WHERE WHAT IT READS IS OF BULK AT MOST 1048576: true; the input reads as it did. -/
def fnStateNumberUptoRow : OpenClaim := { program := "ytnamdobckkhceaa", sum := "7f1f10e4f30db0a538ef50941a79948e1680cdb05f2a6da774944ef4523c748d", func := "loop.example/productprograms/laws.FnStateNumber", spec := "fnStateNumber", unfollowed := true, recurses := true, apart := false, narrowed := true }
def FnStateNumberUptoSaid : Prop := fnStateNumberUptoRow.holds Try.pinned (OpenSpec.upto fnStateNumberSpec)

/-- 'laws.FnExactComposeRel', WHERE WHAT IT READS IS OF BULK AT MOST 1048576: true; the input reads as it did. -/
def fnExactComposeRelUptoRow : OpenClaim := { program := "ytnamdobckkhceaa", sum := "7f1f10e4f30db0a538ef50941a79948e1680cdb05f2a6da774944ef4523c748d", func := "loop.example/productprograms/laws.FnExactComposeRel", spec := "fnExactComposeRel", unfollowed := true, recurses := true, apart := false, narrowed := true }
def FnExactComposeRelUptoSaid : Prop := fnExactComposeRelUptoRow.holds Try.pinned (OpenSpec.upto fnExactComposeRelSpec)

/-- 'laws.FnExactCloseRel', WHERE WHAT IT READS IS OF BULK AT MOST 1048576: true; the input reads as it did. -/
def fnExactCloseRelUptoRow : OpenClaim := { program := "ytnamdobckkhceaa", sum := "7f1f10e4f30db0a538ef50941a79948e1680cdb05f2a6da774944ef4523c748d", func := "loop.example/productprograms/laws.FnExactCloseRel", spec := "fnExactCloseRel", unfollowed := true, recurses := true, apart := false, narrowed := true }
def FnExactCloseRelUptoSaid : Prop := fnExactCloseRelUptoRow.holds Try.pinned (OpenSpec.upto fnExactCloseRelSpec)

/-- 'laws.FnExactIsEquivalence', WHERE WHAT IT READS IS OF BULK AT MOST 1048576: true; the input reads as it did. -/
def fnExactIsEquivalenceUptoRow : OpenClaim := { program := "ytnamdobckkhceaa", sum := "7f1f10e4f30db0a538ef50941a79948e1680cdb05f2a6da774944ef4523c748d", func := "loop.example/productprograms/laws.FnExactIsEquivalence", spec := "fnExactIsEquivalence", unfollowed := true, recurses := true, apart := false, narrowed := true }
def FnExactIsEquivalenceUptoSaid : Prop := fnExactIsEquivalenceUptoRow.holds Try.pinned (OpenSpec.upto fnExactIsEquivalenceSpec)

end Rows
end Go.Proofs.Ytnamdobckkhceaa
