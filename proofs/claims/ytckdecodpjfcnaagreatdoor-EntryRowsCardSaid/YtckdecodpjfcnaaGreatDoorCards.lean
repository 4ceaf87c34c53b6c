/-
  DERIVED. GIVEN WITH THE SEED: THE CARDS: each row of YtckdecodpjfcnaaGreatDoorRows.lean that lists a variable, with what it lists TIED to the program's text (the seventh form; the later family's looks); each row that meets fmt, with fmt's text TOLD by the authors' own Lean function (tested against real Go, not proved from fmt's source: count such statements apart). THE CARD IS WHAT COUNTS. Prove the row's statement (the work); the ties are given (YtckdecodpjfcnaaGreatDoorTie.lean); close each card by the builder's one call (the guide's Derived/Test/ToyasCard.lean, 'card_holds'). Laid BY PROGRAM, IN A SANDBOX (cutbox-door.mjs). By AI agents, Wed Nov 11 2026. No macro, syntax, notation, axiom, sorry.
-/
import Derived.Test.YtckdecodpjfcnaaGreatDoorRows
import GoSem.ClaimSeven
namespace Go.Proofs.YtckdecodpjfcnaaGreatDoor
namespace Rows

/-- THE TIED CARD OF 'rovinglaw07.EntryTells'. -/
def entryTellsCard : Claim7 := { stood := { row := entryTellsRow, standIns := [], harness := (true, "6a244a82ac89f61b3c97c269e0a80c93d1ebf65ca31c7796232474305762ffee"), looks := true }, kinds := [], alts := [], laidByText := true, laidKinds := [.handle], laidTests := true, laidLooks := .later }
def EntryTellsCardSaid : Prop := Claim7.holds Tryz.pinned (.plain (OpenSpec.ofChange entryTellsSpec)) entryTellsCard

/-- THE TIED CARD OF 'rovinglaw07.EntryReads'. -/
def entryReadsCard : Claim7 := { stood := { row := entryReadsRow, standIns := [], harness := (true, "6a244a82ac89f61b3c97c269e0a80c93d1ebf65ca31c7796232474305762ffee"), looks := true }, kinds := [], alts := [], laidByText := true, laidKinds := [.handle], laidTests := true, laidLooks := .later }
def EntryReadsCardSaid : Prop := Claim7.holds Tryz.pinned (.plain (OpenSpec.ofChange entryReadsSpec)) entryReadsCard

/-- THE TIED CARD OF 'rovinglaw07.EntryBack'. -/
def entryBackCard : Claim7 := { stood := { row := entryBackRow, standIns := [], harness := (true, "6a244a82ac89f61b3c97c269e0a80c93d1ebf65ca31c7796232474305762ffee"), looks := true }, kinds := [], alts := [], laidByText := true, laidKinds := [.handle], laidTests := true, laidLooks := .later }
def EntryBackCardSaid : Prop := Claim7.holds Tryz.pinned (.plain (OpenSpec.ofChange entryBackSpec)) entryBackCard

/-- THE TIED CARD OF 'rovinglaw07.EntryOnly'. -/
def entryOnlyCard : Claim7 := { stood := { row := entryOnlyRow, standIns := [], harness := (true, "6a244a82ac89f61b3c97c269e0a80c93d1ebf65ca31c7796232474305762ffee"), looks := true }, kinds := [], alts := [], laidByText := true, laidKinds := [.handle], laidTests := true, laidLooks := .later }
def EntryOnlyCardSaid : Prop := Claim7.holds Tryz.pinned (.plain (OpenSpec.ofChange entryOnlySpec)) entryOnlyCard

/-- THE TIED CARD OF 'rovinglaw07.EntrySeen'. -/
def entrySeenCard : Claim7 := { stood := { row := entrySeenRow, standIns := [], harness := (true, "6a244a82ac89f61b3c97c269e0a80c93d1ebf65ca31c7796232474305762ffee"), looks := true }, kinds := [], alts := [], laidByText := true, laidKinds := [.handle], laidTests := true, laidLooks := .later }
def EntrySeenCardSaid : Prop := Claim7.holds Tryz.pinned (.plain (OpenSpec.ofChange entrySeenSpec)) entrySeenCard

/-- THE TIED CARD OF 'rovinglaw07.EntryRows'. -/
def entryRowsCard : Claim7 := { stood := { row := entryRowsRow, standIns := [], harness := (true, "6a244a82ac89f61b3c97c269e0a80c93d1ebf65ca31c7796232474305762ffee"), looks := true }, kinds := [], alts := [], laidByText := true, laidKinds := [.handle], laidTests := true, laidLooks := .later }
def EntryRowsCardSaid : Prop := Claim7.holds Tryz.pinned (.plain (OpenSpec.ofChange entryRowsSpec)) entryRowsCard

/-- THE SECOND FORM's CARD OF 'rovinglaw07.EntryTells'. -/
def entryTellsUptoCard : Claim7 := { stood := { row := entryTellsUptoRow, standIns := [], harness := (true, "6a244a82ac89f61b3c97c269e0a80c93d1ebf65ca31c7796232474305762ffee"), looks := true }, kinds := [], alts := [], laidByText := true, laidKinds := [.handle], laidTests := true, laidLooks := .later }
def EntryTellsUptoCardSaid : Prop := Claim7.holds Tryz.pinned (.plain (OpenSpec.upto entryTellsSpec)) entryTellsUptoCard

/-- THE SECOND FORM's CARD OF 'rovinglaw07.EntryReads'. -/
def entryReadsUptoCard : Claim7 := { stood := { row := entryReadsUptoRow, standIns := [], harness := (true, "6a244a82ac89f61b3c97c269e0a80c93d1ebf65ca31c7796232474305762ffee"), looks := true }, kinds := [], alts := [], laidByText := true, laidKinds := [.handle], laidTests := true, laidLooks := .later }
def EntryReadsUptoCardSaid : Prop := Claim7.holds Tryz.pinned (.plain (OpenSpec.upto entryReadsSpec)) entryReadsUptoCard

/-- THE SECOND FORM's CARD OF 'rovinglaw07.EntryBack'. -/
def entryBackUptoCard : Claim7 := { stood := { row := entryBackUptoRow, standIns := [], harness := (true, "6a244a82ac89f61b3c97c269e0a80c93d1ebf65ca31c7796232474305762ffee"), looks := true }, kinds := [], alts := [], laidByText := true, laidKinds := [.handle], laidTests := true, laidLooks := .later }
def EntryBackUptoCardSaid : Prop := Claim7.holds Tryz.pinned (.plain (OpenSpec.upto entryBackSpec)) entryBackUptoCard

/-- THE SECOND FORM's CARD OF 'rovinglaw07.EntryOnly'. -/
def entryOnlyUptoCard : Claim7 := { stood := { row := entryOnlyUptoRow, standIns := [], harness := (true, "6a244a82ac89f61b3c97c269e0a80c93d1ebf65ca31c7796232474305762ffee"), looks := true }, kinds := [], alts := [], laidByText := true, laidKinds := [.handle], laidTests := true, laidLooks := .later }
def EntryOnlyUptoCardSaid : Prop := Claim7.holds Tryz.pinned (.plain (OpenSpec.upto entryOnlySpec)) entryOnlyUptoCard

/-- THE SECOND FORM's CARD OF 'rovinglaw07.EntrySeen'. -/
def entrySeenUptoCard : Claim7 := { stood := { row := entrySeenUptoRow, standIns := [], harness := (true, "6a244a82ac89f61b3c97c269e0a80c93d1ebf65ca31c7796232474305762ffee"), looks := true }, kinds := [], alts := [], laidByText := true, laidKinds := [.handle], laidTests := true, laidLooks := .later }
def EntrySeenUptoCardSaid : Prop := Claim7.holds Tryz.pinned (.plain (OpenSpec.upto entrySeenSpec)) entrySeenUptoCard

/-- THE SECOND FORM's CARD OF 'rovinglaw07.EntryRows'. -/
def entryRowsUptoCard : Claim7 := { stood := { row := entryRowsUptoRow, standIns := [], harness := (true, "6a244a82ac89f61b3c97c269e0a80c93d1ebf65ca31c7796232474305762ffee"), looks := true }, kinds := [], alts := [], laidByText := true, laidKinds := [.handle], laidTests := true, laidLooks := .later }
def EntryRowsUptoCardSaid : Prop := Claim7.holds Tryz.pinned (.plain (OpenSpec.upto entryRowsSpec)) entryRowsUptoCard
end Rows
end Go.Proofs.YtckdecodpjfcnaaGreatDoor
