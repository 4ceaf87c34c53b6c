/-
  DERIVED. GIVEN WITH THE SEED: THE CARDS: each row of YtbpkckahonmpkaaGreatDoorRows.lean that lists a variable, with what it lists TIED to the program's text (the seventh form; the later family's looks); each row that meets fmt, with fmt's text TOLD by the authors' own Lean function (tested against real Go, not proved from fmt's source: count such statements apart). THE CARD IS WHAT COUNTS. Prove the row's statement (the work); the ties are given (YtbpkckahonmpkaaGreatDoorTie.lean); close each card by the builder's one call (the guide's Derived/Test/ToyasCard.lean, 'card_holds'). Laid BY PROGRAM, IN A SANDBOX (cutbox-door.mjs). By AI agents, Wed Nov 11 2026. No macro, syntax, notation, axiom, sorry.
-/
import Derived.Test.YtbpkckahonmpkaaGreatDoorRows
import GoSem.ClaimSeven
namespace Go.Proofs.YtbpkckahonmpkaaGreatDoor
namespace Rows

/-- THE TIED CARD OF 'rovinglaw20.MetaFolds'. -/
def metaFoldsCard : Claim7 := { stood := { row := metaFoldsRow, standIns := [], harness := (true, "819b7e89afaf5c59a3cfcfca1583a8df5255145be735af580258a2319071320e"), looks := true }, kinds := [], alts := [], laidByText := true, laidKinds := [.handle], laidTests := true, laidLooks := .later }
def MetaFoldsCardSaid : Prop := Claim7.holds Tryz.pinned (.plain (OpenSpec.ofChange metaFoldsSpec)) metaFoldsCard

/-- THE TIED CARD OF 'rovinglaw19.MetalogTells'. -/
def metalogTellsCard : Claim7 := { stood := { row := metalogTellsRow, standIns := [], harness := (true, "819b7e89afaf5c59a3cfcfca1583a8df5255145be735af580258a2319071320e"), looks := true }, kinds := [], alts := [], laidByText := true, laidKinds := [.handle], laidTests := true, laidLooks := .later }
def MetalogTellsCardSaid : Prop := Claim7.holds Tryz.pinned (.plain (OpenSpec.ofChange metalogTellsSpec)) metalogTellsCard

/-- THE TIED CARD OF 'rovinglaw19.MetalogPuts'. -/
def metalogPutsCard : Claim7 := { stood := { row := metalogPutsRow, standIns := [], harness := (true, "819b7e89afaf5c59a3cfcfca1583a8df5255145be735af580258a2319071320e"), looks := true }, kinds := [], alts := [], laidByText := true, laidKinds := [.handle], laidTests := true, laidLooks := .later }
def MetalogPutsCardSaid : Prop := Claim7.holds Tryz.pinned (.plain (OpenSpec.ofChange metalogPutsSpec)) metalogPutsCard

/-- THE TIED CARD OF 'rovinglaw19.MetalogBack'. -/
def metalogBackCard : Claim7 := { stood := { row := metalogBackRow, standIns := [], harness := (true, "819b7e89afaf5c59a3cfcfca1583a8df5255145be735af580258a2319071320e"), looks := true }, kinds := [], alts := [], laidByText := true, laidKinds := [.handle], laidTests := true, laidLooks := .later }
def MetalogBackCardSaid : Prop := Claim7.holds Tryz.pinned (.plain (OpenSpec.ofChange metalogBackSpec)) metalogBackCard

/-- THE TIED CARD OF 'rovinglaw19.MetalogFrames'. -/
def metalogFramesCard : Claim7 := { stood := { row := metalogFramesRow, standIns := [], harness := (true, "819b7e89afaf5c59a3cfcfca1583a8df5255145be735af580258a2319071320e"), looks := true }, kinds := [], alts := [], laidByText := true, laidKinds := [.handle], laidTests := true, laidLooks := .later }
def MetalogFramesCardSaid : Prop := Claim7.holds Tryz.pinned (.plain (OpenSpec.ofChange metalogFramesSpec)) metalogFramesCard

/-- THE TIED CARD OF 'rovinglaw19.MetalogReads'. -/
def metalogReadsCard : Claim7 := { stood := { row := metalogReadsRow, standIns := [], harness := (true, "819b7e89afaf5c59a3cfcfca1583a8df5255145be735af580258a2319071320e"), looks := true }, kinds := [], alts := [], laidByText := true, laidKinds := [.handle], laidTests := true, laidLooks := .later }
def MetalogReadsCardSaid : Prop := Claim7.holds Tryz.pinned (.plain (OpenSpec.ofChange metalogReadsSpec)) metalogReadsCard

/-- THE SECOND FORM's CARD OF 'rovinglaw20.MetaFolds'. -/
def metaFoldsUptoCard : Claim7 := { stood := { row := metaFoldsUptoRow, standIns := [], harness := (true, "819b7e89afaf5c59a3cfcfca1583a8df5255145be735af580258a2319071320e"), looks := true }, kinds := [], alts := [], laidByText := true, laidKinds := [.handle], laidTests := true, laidLooks := .later }
def MetaFoldsUptoCardSaid : Prop := Claim7.holds Tryz.pinned (.plain (OpenSpec.upto metaFoldsSpec)) metaFoldsUptoCard

/-- THE SECOND FORM's CARD OF 'rovinglaw19.MetalogTells'. -/
def metalogTellsUptoCard : Claim7 := { stood := { row := metalogTellsUptoRow, standIns := [], harness := (true, "819b7e89afaf5c59a3cfcfca1583a8df5255145be735af580258a2319071320e"), looks := true }, kinds := [], alts := [], laidByText := true, laidKinds := [.handle], laidTests := true, laidLooks := .later }
def MetalogTellsUptoCardSaid : Prop := Claim7.holds Tryz.pinned (.plain (OpenSpec.upto metalogTellsSpec)) metalogTellsUptoCard

/-- THE SECOND FORM's CARD OF 'rovinglaw19.MetalogPuts'. -/
def metalogPutsUptoCard : Claim7 := { stood := { row := metalogPutsUptoRow, standIns := [], harness := (true, "819b7e89afaf5c59a3cfcfca1583a8df5255145be735af580258a2319071320e"), looks := true }, kinds := [], alts := [], laidByText := true, laidKinds := [.handle], laidTests := true, laidLooks := .later }
def MetalogPutsUptoCardSaid : Prop := Claim7.holds Tryz.pinned (.plain (OpenSpec.upto metalogPutsSpec)) metalogPutsUptoCard

/-- THE SECOND FORM's CARD OF 'rovinglaw19.MetalogBack'. -/
def metalogBackUptoCard : Claim7 := { stood := { row := metalogBackUptoRow, standIns := [], harness := (true, "819b7e89afaf5c59a3cfcfca1583a8df5255145be735af580258a2319071320e"), looks := true }, kinds := [], alts := [], laidByText := true, laidKinds := [.handle], laidTests := true, laidLooks := .later }
def MetalogBackUptoCardSaid : Prop := Claim7.holds Tryz.pinned (.plain (OpenSpec.upto metalogBackSpec)) metalogBackUptoCard

/-- THE SECOND FORM's CARD OF 'rovinglaw19.MetalogFrames'. -/
def metalogFramesUptoCard : Claim7 := { stood := { row := metalogFramesUptoRow, standIns := [], harness := (true, "819b7e89afaf5c59a3cfcfca1583a8df5255145be735af580258a2319071320e"), looks := true }, kinds := [], alts := [], laidByText := true, laidKinds := [.handle], laidTests := true, laidLooks := .later }
def MetalogFramesUptoCardSaid : Prop := Claim7.holds Tryz.pinned (.plain (OpenSpec.upto metalogFramesSpec)) metalogFramesUptoCard

/-- THE SECOND FORM's CARD OF 'rovinglaw19.MetalogReads'. -/
def metalogReadsUptoCard : Claim7 := { stood := { row := metalogReadsUptoRow, standIns := [], harness := (true, "819b7e89afaf5c59a3cfcfca1583a8df5255145be735af580258a2319071320e"), looks := true }, kinds := [], alts := [], laidByText := true, laidKinds := [.handle], laidTests := true, laidLooks := .later }
def MetalogReadsUptoCardSaid : Prop := Claim7.holds Tryz.pinned (.plain (OpenSpec.upto metalogReadsSpec)) metalogReadsUptoCard
end Rows
end Go.Proofs.YtbpkckahonmpkaaGreatDoor
