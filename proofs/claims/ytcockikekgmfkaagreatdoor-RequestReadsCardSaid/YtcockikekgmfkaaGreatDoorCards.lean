/-
  DERIVED. GIVEN WITH THE SEED: THE CARDS: each row of YtcockikekgmfkaaGreatDoorRows.lean that lists a variable, with what it lists TIED to the program's text (the seventh form; the later family's looks); each row that meets fmt, with fmt's text TOLD by the authors' own Lean function (tested against real Go, not proved from fmt's source: count such statements apart). THE CARD IS WHAT COUNTS. Prove the row's statement (the work); the ties are given (YtcockikekgmfkaaGreatDoorTie.lean); close each card by the builder's one call (the guide's Derived/Test/ToyasCard.lean, 'card_holds'). Laid BY PROGRAM, IN A SANDBOX (cutbox-door.mjs). By AI agents, Wed Nov 11 2026. No macro, syntax, notation, axiom, sorry.
-/
import Derived.Test.YtcockikekgmfkaaGreatDoorRows
import GoSem.ClaimSeven
namespace Go.Proofs.YtcockikekgmfkaaGreatDoor
namespace Rows

/-- THE TIED CARD OF 'rovinglaw08.RequestWrites'. -/
def requestWritesCard : Claim7 := { stood := { row := requestWritesRow, standIns := [], harness := (true, "f929c7308f84a4cf87b2cf92873e0de5610a1a468de0487680abb9e08ec03f59"), looks := true }, kinds := [], alts := [], laidByText := true, laidKinds := [.handle], laidTests := true, laidLooks := .later }
def RequestWritesCardSaid : Prop := Claim7.holds Tryz.pinned (.plain (OpenSpec.ofChange requestWritesSpec)) requestWritesCard

/-- THE TIED CARD OF 'rovinglaw08.RequestReads'. -/
def requestReadsCard : Claim7 := { stood := { row := requestReadsRow, standIns := [], harness := (true, "f929c7308f84a4cf87b2cf92873e0de5610a1a468de0487680abb9e08ec03f59"), looks := true }, kinds := [], alts := [], laidByText := true, laidKinds := [.handle], laidTests := true, laidLooks := .later }
def RequestReadsCardSaid : Prop := Claim7.holds Tryz.pinned (.plain (OpenSpec.ofChange requestReadsSpec)) requestReadsCard

/-- THE SECOND FORM's CARD OF 'rovinglaw08.RequestWrites'. -/
def requestWritesUptoCard : Claim7 := { stood := { row := requestWritesUptoRow, standIns := [], harness := (true, "f929c7308f84a4cf87b2cf92873e0de5610a1a468de0487680abb9e08ec03f59"), looks := true }, kinds := [], alts := [], laidByText := true, laidKinds := [.handle], laidTests := true, laidLooks := .later }
def RequestWritesUptoCardSaid : Prop := Claim7.holds Tryz.pinned (.plain (OpenSpec.upto requestWritesSpec)) requestWritesUptoCard

/-- THE SECOND FORM's CARD OF 'rovinglaw08.RequestReads'. -/
def requestReadsUptoCard : Claim7 := { stood := { row := requestReadsUptoRow, standIns := [], harness := (true, "f929c7308f84a4cf87b2cf92873e0de5610a1a468de0487680abb9e08ec03f59"), looks := true }, kinds := [], alts := [], laidByText := true, laidKinds := [.handle], laidTests := true, laidLooks := .later }
def RequestReadsUptoCardSaid : Prop := Claim7.holds Tryz.pinned (.plain (OpenSpec.upto requestReadsSpec)) requestReadsUptoCard
end Rows
end Go.Proofs.YtcockikekgmfkaaGreatDoor
