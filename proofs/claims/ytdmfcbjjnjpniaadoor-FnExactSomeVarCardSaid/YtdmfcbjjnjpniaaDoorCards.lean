/-
  DERIVED. GIVEN WITH THE SEED: THE CARDS: each row of YtdmfcbjjnjpniaaDoorRows.lean that lists a variable, with what it lists TIED to the program's text (the seventh form; the later family's looks); each row that meets fmt, with fmt's text TOLD by the authors' own Lean function (tested against real Go, not proved from fmt's source: count such statements apart). THE CARD IS WHAT COUNTS. Prove the row's statement (the work); the ties are given (YtdmfcbjjnjpniaaDoorTie.lean); close each card by the builder's one call (the guide's Derived/Test/ToyasCard.lean, 'card_holds'). Laid BY PROGRAM, IN A SANDBOX (cutbox-door.mjs). By AI agents, Wed Nov 11 2026. No macro, syntax, notation, axiom, sorry.
-/
import Derived.Test.YtdmfcbjjnjpniaaDoorRows
import GoSem.ClaimSeven
namespace Go.Proofs.YtdmfcbjjnjpniaaDoor
namespace Rows

/-- THE TIED CARD OF 'laws.FnExactAllVar'. -/
def fnExactAllVarCard : Claim7 := { stood := { row := fnExactAllVarRow, standIns := [], harness := (true, "4f1b32ee5e7004c4fe1fead3499c9e51534f1cc0fcd3fed1a29d3f585bf2ee0c"), looks := false }, kinds := [], alts := [], laidByText := true, laidKinds := [.data], laidTests := true, laidLooks := .later }
def FnExactAllVarCardSaid : Prop := Claim7.holds Tryd.pinned (.plain (OpenSpec.ofChange fnExactAllVarSpec)) fnExactAllVarCard

/-- THE TIED CARD OF 'laws.FnExactSomeVar'. -/
def fnExactSomeVarCard : Claim7 := { stood := { row := fnExactSomeVarRow, standIns := [], harness := (true, "4f1b32ee5e7004c4fe1fead3499c9e51534f1cc0fcd3fed1a29d3f585bf2ee0c"), looks := false }, kinds := [], alts := [], laidByText := true, laidKinds := [.data], laidTests := true, laidLooks := .later }
def FnExactSomeVarCardSaid : Prop := Claim7.holds Tryd.pinned (.plain (OpenSpec.ofChange fnExactSomeVarSpec)) fnExactSomeVarCard

/-- THE TIED CARD OF 'laws.FnExactAgreeOn'. -/
def fnExactAgreeOnCard : Claim7 := { stood := { row := fnExactAgreeOnRow, standIns := [], harness := (true, "4f1b32ee5e7004c4fe1fead3499c9e51534f1cc0fcd3fed1a29d3f585bf2ee0c"), looks := false }, kinds := [], alts := [], laidByText := true, laidKinds := [.data], laidTests := true, laidLooks := .later }
def FnExactAgreeOnCardSaid : Prop := Claim7.holds Tryd.pinned (.plain (OpenSpec.ofChange fnExactAgreeOnSpec)) fnExactAgreeOnCard

/-- THE SECOND FORM's CARD OF 'laws.FnExactAllVar'. -/
def fnExactAllVarUptoCard : Claim7 := { stood := { row := fnExactAllVarUptoRow, standIns := [], harness := (true, "4f1b32ee5e7004c4fe1fead3499c9e51534f1cc0fcd3fed1a29d3f585bf2ee0c"), looks := false }, kinds := [], alts := [], laidByText := true, laidKinds := [.data], laidTests := true, laidLooks := .later }
def FnExactAllVarUptoCardSaid : Prop := Claim7.holds Tryd.pinned (.plain (OpenSpec.upto fnExactAllVarSpec)) fnExactAllVarUptoCard

/-- THE SECOND FORM's CARD OF 'laws.FnExactSomeVar'. -/
def fnExactSomeVarUptoCard : Claim7 := { stood := { row := fnExactSomeVarUptoRow, standIns := [], harness := (true, "4f1b32ee5e7004c4fe1fead3499c9e51534f1cc0fcd3fed1a29d3f585bf2ee0c"), looks := false }, kinds := [], alts := [], laidByText := true, laidKinds := [.data], laidTests := true, laidLooks := .later }
def FnExactSomeVarUptoCardSaid : Prop := Claim7.holds Tryd.pinned (.plain (OpenSpec.upto fnExactSomeVarSpec)) fnExactSomeVarUptoCard

/-- THE SECOND FORM's CARD OF 'laws.FnExactAgreeOn'. -/
def fnExactAgreeOnUptoCard : Claim7 := { stood := { row := fnExactAgreeOnUptoRow, standIns := [], harness := (true, "4f1b32ee5e7004c4fe1fead3499c9e51534f1cc0fcd3fed1a29d3f585bf2ee0c"), looks := false }, kinds := [], alts := [], laidByText := true, laidKinds := [.data], laidTests := true, laidLooks := .later }
def FnExactAgreeOnUptoCardSaid : Prop := Claim7.holds Tryd.pinned (.plain (OpenSpec.upto fnExactAgreeOnSpec)) fnExactAgreeOnUptoCard
end Rows
end Go.Proofs.YtdmfcbjjnjpniaaDoor
