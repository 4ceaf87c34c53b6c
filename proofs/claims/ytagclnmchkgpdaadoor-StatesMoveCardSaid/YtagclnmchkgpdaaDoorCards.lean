/-
  DERIVED. GIVEN WITH THE SEED: THE CARDS: each row of YtagclnmchkgpdaaDoorRows.lean that lists a variable, with what it lists TIED to the program's text (the seventh form; the later family's looks); each row that meets fmt, with fmt's text TOLD by the authors' own Lean function (tested against real Go, not proved from fmt's source: count such statements apart). THE CARD IS WHAT COUNTS. Prove the row's statement (the work); the ties are given (YtagclnmchkgpdaaDoorTie.lean); close each card by the builder's one call (the guide's Derived/Test/ToyasCard.lean, 'card_holds'). Laid BY PROGRAM, IN A SANDBOX (cutbox-door.mjs). By AI agents, Wed Nov 11 2026. No macro, syntax, notation, axiom, sorry.
-/
import Derived.Test.YtagclnmchkgpdaaDoorRows
import GoSem.ClaimSeven
namespace Go.Proofs.YtagclnmchkgpdaaDoor
namespace Rows

/-- THE TIED CARD OF 'rovinglaw18.StatesTell'. -/
def statesTellCard : Claim7 := { stood := { row := statesTellRow, standIns := [], harness := (true, "c04afa4728a5201ab424f86beb333a2b02361874a0b1797138c1753f53223e22"), looks := true }, kinds := [], alts := [], laidByText := true, laidKinds := [.handle], laidTests := true, laidLooks := .later }
def StatesTellCardSaid : Prop := Claim7.holds Tryd.pinned (.plain (OpenSpec.ofChange statesTellSpec)) statesTellCard

/-- THE TIED CARD OF 'rovinglaw18.StatesPlace'. -/
def statesPlaceCard : Claim7 := { stood := { row := statesPlaceRow, standIns := [], harness := (true, "c04afa4728a5201ab424f86beb333a2b02361874a0b1797138c1753f53223e22"), looks := true }, kinds := [], alts := [], laidByText := true, laidKinds := [.handle], laidTests := true, laidLooks := .later }
def StatesPlaceCardSaid : Prop := Claim7.holds Tryd.pinned (.plain (OpenSpec.ofChange statesPlaceSpec)) statesPlaceCard

/-- THE TIED CARD OF 'rovinglaw18.StatesMove'. -/
def statesMoveCard : Claim7 := { stood := { row := statesMoveRow, standIns := [], harness := (true, "c04afa4728a5201ab424f86beb333a2b02361874a0b1797138c1753f53223e22"), looks := true }, kinds := [], alts := [], laidByText := true, laidKinds := [.handle], laidTests := true, laidLooks := .later }
def StatesMoveCardSaid : Prop := Claim7.holds Tryd.pinned (.plain (OpenSpec.ofChange statesMoveSpec)) statesMoveCard

/-- THE TIED CARD OF 'rovinglaw18.StatesOld'. -/
def statesOldCard : Claim7 := { stood := { row := statesOldRow, standIns := [], harness := (true, "c04afa4728a5201ab424f86beb333a2b02361874a0b1797138c1753f53223e22"), looks := true }, kinds := [], alts := [], laidByText := true, laidKinds := [.handle], laidTests := true, laidLooks := .later }
def StatesOldCardSaid : Prop := Claim7.holds Tryd.pinned (.plain (OpenSpec.ofChange statesOldSpec)) statesOldCard

/-- THE TIED CARD OF 'rovinglaw18.StatesRun'. -/
def statesRunCard : Claim7 := { stood := { row := statesRunRow, standIns := [], harness := (true, "c04afa4728a5201ab424f86beb333a2b02361874a0b1797138c1753f53223e22"), looks := true }, kinds := [], alts := [], laidByText := true, laidKinds := [.handle], laidTests := true, laidLooks := .later }
def StatesRunCardSaid : Prop := Claim7.holds Tryd.pinned (.plain (OpenSpec.ofChange statesRunSpec)) statesRunCard

/-- THE SECOND FORM's CARD OF 'rovinglaw18.StatesTell'. -/
def statesTellUptoCard : Claim7 := { stood := { row := statesTellUptoRow, standIns := [], harness := (true, "c04afa4728a5201ab424f86beb333a2b02361874a0b1797138c1753f53223e22"), looks := true }, kinds := [], alts := [], laidByText := true, laidKinds := [.handle], laidTests := true, laidLooks := .later }
def StatesTellUptoCardSaid : Prop := Claim7.holds Tryd.pinned (.plain (OpenSpec.upto statesTellSpec)) statesTellUptoCard

/-- THE SECOND FORM's CARD OF 'rovinglaw18.StatesPlace'. -/
def statesPlaceUptoCard : Claim7 := { stood := { row := statesPlaceUptoRow, standIns := [], harness := (true, "c04afa4728a5201ab424f86beb333a2b02361874a0b1797138c1753f53223e22"), looks := true }, kinds := [], alts := [], laidByText := true, laidKinds := [.handle], laidTests := true, laidLooks := .later }
def StatesPlaceUptoCardSaid : Prop := Claim7.holds Tryd.pinned (.plain (OpenSpec.upto statesPlaceSpec)) statesPlaceUptoCard

/-- THE SECOND FORM's CARD OF 'rovinglaw18.StatesMove'. -/
def statesMoveUptoCard : Claim7 := { stood := { row := statesMoveUptoRow, standIns := [], harness := (true, "c04afa4728a5201ab424f86beb333a2b02361874a0b1797138c1753f53223e22"), looks := true }, kinds := [], alts := [], laidByText := true, laidKinds := [.handle], laidTests := true, laidLooks := .later }
def StatesMoveUptoCardSaid : Prop := Claim7.holds Tryd.pinned (.plain (OpenSpec.upto statesMoveSpec)) statesMoveUptoCard

/-- THE SECOND FORM's CARD OF 'rovinglaw18.StatesOld'. -/
def statesOldUptoCard : Claim7 := { stood := { row := statesOldUptoRow, standIns := [], harness := (true, "c04afa4728a5201ab424f86beb333a2b02361874a0b1797138c1753f53223e22"), looks := true }, kinds := [], alts := [], laidByText := true, laidKinds := [.handle], laidTests := true, laidLooks := .later }
def StatesOldUptoCardSaid : Prop := Claim7.holds Tryd.pinned (.plain (OpenSpec.upto statesOldSpec)) statesOldUptoCard

/-- THE SECOND FORM's CARD OF 'rovinglaw18.StatesRun'. -/
def statesRunUptoCard : Claim7 := { stood := { row := statesRunUptoRow, standIns := [], harness := (true, "c04afa4728a5201ab424f86beb333a2b02361874a0b1797138c1753f53223e22"), looks := true }, kinds := [], alts := [], laidByText := true, laidKinds := [.handle], laidTests := true, laidLooks := .later }
def StatesRunUptoCardSaid : Prop := Claim7.holds Tryd.pinned (.plain (OpenSpec.upto statesRunSpec)) statesRunUptoCard
end Rows
end Go.Proofs.YtagclnmchkgpdaaDoor
