/-
  DERIVED. GIVEN WITH THE SEED: THE CARDS: each row of YtinnkkhpgcmbhaaDoorRows.lean that lists a variable, with what it lists TIED to the program's text (the seventh form; the later family's looks); each row that meets fmt, with fmt's text TOLD by the authors' own Lean function (tested against real Go, not proved from fmt's source: count such statements apart). THE CARD IS WHAT COUNTS. Prove the row's statement (the work); the ties are given (YtinnkkhpgcmbhaaDoorTie.lean); close each card by the builder's one call (the guide's Derived/Test/ToyasCard.lean, 'card_holds'). Laid BY PROGRAM, IN A SANDBOX (cutbox-door.mjs). By AI agents, Wed Nov 11 2026. No macro, syntax, notation, axiom, sorry.
-/
import Derived.Test.YtinnkkhpgcmbhaaDoorRows
import GoSem.ClaimSeven
namespace Go.Proofs.YtinnkkhpgcmbhaaDoor
namespace Rows

/-- THE TIED CARD OF 'laws.FnExactPredVars'. -/
def fnExactPredVarsCard : Claim7 := { stood := { row := fnExactPredVarsRow, standIns := [], harness := (true, "39f282c94eedf9fbba177e1dc30491b165ce0f84aca3adda195fbb81a7635132"), looks := false }, kinds := [], alts := [], laidByText := true, laidKinds := [.data], laidTests := true, laidLooks := .later }
def FnExactPredVarsCardSaid : Prop := Claim7.holds Tryd.pinned (.plain (OpenSpec.ofChange fnExactPredVarsSpec)) fnExactPredVarsCard

/-- THE SECOND FORM's CARD OF 'laws.FnExactPredVars'. -/
def fnExactPredVarsUptoCard : Claim7 := { stood := { row := fnExactPredVarsUptoRow, standIns := [], harness := (true, "39f282c94eedf9fbba177e1dc30491b165ce0f84aca3adda195fbb81a7635132"), looks := false }, kinds := [], alts := [], laidByText := true, laidKinds := [.data], laidTests := true, laidLooks := .later }
def FnExactPredVarsUptoCardSaid : Prop := Claim7.holds Tryd.pinned (.plain (OpenSpec.upto fnExactPredVarsSpec)) fnExactPredVarsUptoCard
end Rows
end Go.Proofs.YtinnkkhpgcmbhaaDoor
