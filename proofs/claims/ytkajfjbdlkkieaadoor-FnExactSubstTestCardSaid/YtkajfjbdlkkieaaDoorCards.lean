/-
  DERIVED. GIVEN WITH THE SEED: THE CARDS: each row of YtkajfjbdlkkieaaDoorRows.lean that lists a variable, with what it lists TIED to the program's text (the seventh form; the later family's looks); each row that meets fmt, with fmt's text TOLD by the authors' own Lean function (tested against real Go, not proved from fmt's source: count such statements apart). THE CARD IS WHAT COUNTS. Prove the row's statement (the work); the ties are given (YtkajfjbdlkkieaaDoorTie.lean); close each card by the builder's one call (the guide's Derived/Test/ToyasCard.lean, 'card_holds'). Laid BY PROGRAM, IN A SANDBOX (cutbox-door.mjs). By AI agents, Wed Nov 11 2026. No macro, syntax, notation, axiom, sorry.
-/
import Derived.Test.YtkajfjbdlkkieaaDoorRows
import GoSem.ClaimSeven
namespace Go.Proofs.YtkajfjbdlkkieaaDoor
namespace Rows

/-- THE TIED CARD OF 'laws.FnExactSubstExpr'. -/
def fnExactSubstExprCard : Claim7 := { stood := { row := fnExactSubstExprRow, standIns := [], harness := (true, "34013df40a43702c86fe7ade7ca518605618bc48a1272cafa7c6829fd5a03a31"), looks := false }, kinds := [], alts := [], laidByText := true, laidKinds := [.data, .pinned], laidTests := true, laidLooks := .later }
def FnExactSubstExprCardSaid : Prop := Claim7.holds Tryd.pinned (.plain (OpenSpec.ofChange fnExactSubstExprSpec)) fnExactSubstExprCard

/-- THE TIED CARD OF 'laws.FnExactSubstTest'. -/
def fnExactSubstTestCard : Claim7 := { stood := { row := fnExactSubstTestRow, standIns := [], harness := (true, "34013df40a43702c86fe7ade7ca518605618bc48a1272cafa7c6829fd5a03a31"), looks := false }, kinds := [], alts := [], laidByText := true, laidKinds := [.data, .pinned], laidTests := true, laidLooks := .later }
def FnExactSubstTestCardSaid : Prop := Claim7.holds Tryd.pinned (.plain (OpenSpec.ofChange fnExactSubstTestSpec)) fnExactSubstTestCard

/-- THE TIED CARD OF 'laws.FnExactAssignPre'. -/
def fnExactAssignPreCard : Claim7 := { stood := { row := fnExactAssignPreRow, standIns := [], harness := (true, "34013df40a43702c86fe7ade7ca518605618bc48a1272cafa7c6829fd5a03a31"), looks := false }, kinds := [], alts := [], laidByText := true, laidKinds := [.data], laidTests := true, laidLooks := .later }
def FnExactAssignPreCardSaid : Prop := Claim7.holds Tryd.pinned (.plain (OpenSpec.ofChange fnExactAssignPreSpec)) fnExactAssignPreCard

/-- THE TIED CARD OF 'laws.FnExactAssignPost'. -/
def fnExactAssignPostCard : Claim7 := { stood := { row := fnExactAssignPostRow, standIns := [], harness := (true, "34013df40a43702c86fe7ade7ca518605618bc48a1272cafa7c6829fd5a03a31"), looks := false }, kinds := [], alts := [], laidByText := true, laidKinds := [.data], laidTests := true, laidLooks := .later }
def FnExactAssignPostCardSaid : Prop := Claim7.holds Tryd.pinned (.plain (OpenSpec.ofChange fnExactAssignPostSpec)) fnExactAssignPostCard

/-- THE SECOND FORM's CARD OF 'laws.FnExactSubstExpr'. -/
def fnExactSubstExprUptoCard : Claim7 := { stood := { row := fnExactSubstExprUptoRow, standIns := [], harness := (true, "34013df40a43702c86fe7ade7ca518605618bc48a1272cafa7c6829fd5a03a31"), looks := false }, kinds := [], alts := [], laidByText := true, laidKinds := [.data, .pinned], laidTests := true, laidLooks := .later }
def FnExactSubstExprUptoCardSaid : Prop := Claim7.holds Tryd.pinned (.plain (OpenSpec.upto fnExactSubstExprSpec)) fnExactSubstExprUptoCard

/-- THE SECOND FORM's CARD OF 'laws.FnExactSubstTest'. -/
def fnExactSubstTestUptoCard : Claim7 := { stood := { row := fnExactSubstTestUptoRow, standIns := [], harness := (true, "34013df40a43702c86fe7ade7ca518605618bc48a1272cafa7c6829fd5a03a31"), looks := false }, kinds := [], alts := [], laidByText := true, laidKinds := [.data, .pinned], laidTests := true, laidLooks := .later }
def FnExactSubstTestUptoCardSaid : Prop := Claim7.holds Tryd.pinned (.plain (OpenSpec.upto fnExactSubstTestSpec)) fnExactSubstTestUptoCard

/-- THE SECOND FORM's CARD OF 'laws.FnExactAssignPre'. -/
def fnExactAssignPreUptoCard : Claim7 := { stood := { row := fnExactAssignPreUptoRow, standIns := [], harness := (true, "34013df40a43702c86fe7ade7ca518605618bc48a1272cafa7c6829fd5a03a31"), looks := false }, kinds := [], alts := [], laidByText := true, laidKinds := [.data], laidTests := true, laidLooks := .later }
def FnExactAssignPreUptoCardSaid : Prop := Claim7.holds Tryd.pinned (.plain (OpenSpec.upto fnExactAssignPreSpec)) fnExactAssignPreUptoCard

/-- THE SECOND FORM's CARD OF 'laws.FnExactAssignPost'. -/
def fnExactAssignPostUptoCard : Claim7 := { stood := { row := fnExactAssignPostUptoRow, standIns := [], harness := (true, "34013df40a43702c86fe7ade7ca518605618bc48a1272cafa7c6829fd5a03a31"), looks := false }, kinds := [], alts := [], laidByText := true, laidKinds := [.data], laidTests := true, laidLooks := .later }
def FnExactAssignPostUptoCardSaid : Prop := Claim7.holds Tryd.pinned (.plain (OpenSpec.upto fnExactAssignPostSpec)) fnExactAssignPostUptoCard
end Rows
end Go.Proofs.YtkajfjbdlkkieaaDoor
