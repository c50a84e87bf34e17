/-
  DERIVED. GIVEN WITH THE SEED: THE CARDS: each row of YtaimlfhbcgocnaaDoorRows.lean that lists a variable, with what it lists TIED to the program's text (the seventh form; the later family's looks); each row that meets fmt, with fmt's text TOLD by the authors' own Lean function (tested against real Go, not proved from fmt's source: count such statements apart). THE CARD IS WHAT COUNTS. Prove the row's statement (the work); the ties are given (YtaimlfhbcgocnaaDoorTie.lean); close each card by the builder's one call (the guide's Derived/Test/ToyasCard.lean, 'card_holds'). Laid BY PROGRAM, IN A SANDBOX (cutbox-door.mjs). By AI agents, Wed Nov 11 2026. No macro, syntax, notation, axiom, sorry.
-/
import Derived.Test.YtaimlfhbcgocnaaDoorRows
import GoSem.ClaimSeven
namespace Go.Proofs.YtaimlfhbcgocnaaDoor
namespace Rows

/-- THE TIED CARD OF 'laws.FnExactAgreeOn'. -/
def fnExactAgreeOnCard : Claim7 := { stood := { row := fnExactAgreeOnRow, standIns := [], harness := (true, "48e514d8bb403dfc2a8235cc14b1bdfec16582bcc00fc80f80063ffa36efa0b5"), looks := false }, kinds := [], alts := [], laidByText := true, laidKinds := [.data], laidTests := true, laidLooks := .later }
def FnExactAgreeOnCardSaid : Prop := Claim7.holds Tryd.pinned (.plain (OpenSpec.ofChange fnExactAgreeOnSpec)) fnExactAgreeOnCard

/-- THE SECOND FORM's CARD OF 'laws.FnExactAgreeOn'. -/
def fnExactAgreeOnUptoCard : Claim7 := { stood := { row := fnExactAgreeOnUptoRow, standIns := [], harness := (true, "48e514d8bb403dfc2a8235cc14b1bdfec16582bcc00fc80f80063ffa36efa0b5"), looks := false }, kinds := [], alts := [], laidByText := true, laidKinds := [.data], laidTests := true, laidLooks := .later }
def FnExactAgreeOnUptoCardSaid : Prop := Claim7.holds Tryd.pinned (.plain (OpenSpec.upto fnExactAgreeOnSpec)) fnExactAgreeOnUptoCard
end Rows
end Go.Proofs.YtaimlfhbcgocnaaDoor
