/-
  DERIVED. GIVEN WITH THE SEED: THE CARDS: each row of YtcockikekgmfkaaDoorRows.lean that lists a variable, with what it lists TIED to the program's text (the seventh form; the later family's looks); each row that meets fmt, with fmt's text TOLD by the authors' own Lean function (tested against real Go, not proved from fmt's source: count such statements apart). THE CARD IS WHAT COUNTS. Prove the row's statement (the work); the ties are given (YtcockikekgmfkaaDoorTie.lean); close each card by the builder's one call (the guide's Derived/Test/ToyasCard.lean, 'card_holds'). Laid BY PROGRAM, IN A SANDBOX (cutbox-door.mjs). By AI agents, Wed Nov 11 2026. No macro, syntax, notation, axiom, sorry.
-/
import Derived.Test.YtcockikekgmfkaaDoorRows
import GoSem.ClaimSeven
namespace Go.Proofs.YtcockikekgmfkaaDoor
namespace Rows

/-- THE TIED CARD OF 'rovinglaw02.FieldsRead'. -/
def fieldsReadCard : Claim7 := { stood := { row := fieldsReadRow, standIns := [], harness := (true, "d872ba4bc4392398b78cd1c167023035c4da65fd90c0a61482c10a11d6e25f07"), looks := true }, kinds := [], alts := [], laidByText := true, laidKinds := [.handle], laidTests := true, laidLooks := .later }
def FieldsReadCardSaid : Prop := Claim7.holds Tryd.pinned (.plain (OpenSpec.ofChange fieldsReadSpec)) fieldsReadCard

/-- THE TIED CARD OF 'rovinglaw06.RecordOnce'. -/
def recordOnceCard : Claim7 := { stood := { row := recordOnceRow, standIns := [], harness := (true, "d872ba4bc4392398b78cd1c167023035c4da65fd90c0a61482c10a11d6e25f07"), looks := true }, kinds := [], alts := [], laidByText := true, laidKinds := [.handle], laidTests := true, laidLooks := .later }
def RecordOnceCardSaid : Prop := Claim7.holds Tryd.pinned (.plain (OpenSpec.ofChange recordOnceSpec)) recordOnceCard

/-- THE TIED CARD OF 'rovinglaw06.RecordTells'. -/
def recordTellsCard : Claim7 := { stood := { row := recordTellsRow, standIns := [], harness := (true, "d872ba4bc4392398b78cd1c167023035c4da65fd90c0a61482c10a11d6e25f07"), looks := true }, kinds := [], alts := [], laidByText := true, laidKinds := [.handle], laidTests := true, laidLooks := .later }
def RecordTellsCardSaid : Prop := Claim7.holds Tryd.pinned (.plain (OpenSpec.ofChange recordTellsSpec)) recordTellsCard

/-- THE TIED CARD OF 'rovinglaw02.FieldsWrite'. -/
def fieldsWriteCard : Claim7 := { stood := { row := fieldsWriteRow, standIns := [], harness := (true, "d872ba4bc4392398b78cd1c167023035c4da65fd90c0a61482c10a11d6e25f07"), looks := true }, kinds := [], alts := [], laidByText := true, laidKinds := [.handle], laidTests := true, laidLooks := .later }
def FieldsWriteCardSaid : Prop := Claim7.holds Tryd.pinned (.plain (OpenSpec.ofChange fieldsWriteSpec)) fieldsWriteCard

/-- THE TIED CARD OF 'rovinglaw02.FieldsBack'. -/
def fieldsBackCard : Claim7 := { stood := { row := fieldsBackRow, standIns := [], harness := (true, "d872ba4bc4392398b78cd1c167023035c4da65fd90c0a61482c10a11d6e25f07"), looks := true }, kinds := [], alts := [], laidByText := true, laidKinds := [.handle], laidTests := true, laidLooks := .later }
def FieldsBackCardSaid : Prop := Claim7.holds Tryd.pinned (.plain (OpenSpec.ofChange fieldsBackSpec)) fieldsBackCard

/-- THE TIED CARD OF 'rovinglaw06.RecordReads'. -/
def recordReadsCard : Claim7 := { stood := { row := recordReadsRow, standIns := [], harness := (true, "d872ba4bc4392398b78cd1c167023035c4da65fd90c0a61482c10a11d6e25f07"), looks := true }, kinds := [], alts := [], laidByText := true, laidKinds := [.handle], laidTests := true, laidLooks := .later }
def RecordReadsCardSaid : Prop := Claim7.holds Tryd.pinned (.plain (OpenSpec.ofChange recordReadsSpec)) recordReadsCard

/-- THE TIED CARD OF 'rovinglaw06.RecordBack'. -/
def recordBackCard : Claim7 := { stood := { row := recordBackRow, standIns := [], harness := (true, "d872ba4bc4392398b78cd1c167023035c4da65fd90c0a61482c10a11d6e25f07"), looks := true }, kinds := [], alts := [], laidByText := true, laidKinds := [.handle], laidTests := true, laidLooks := .later }
def RecordBackCardSaid : Prop := Claim7.holds Tryd.pinned (.plain (OpenSpec.ofChange recordBackSpec)) recordBackCard

/-- THE TIED CARD OF 'rovinglaw08.RequestStray'. -/
def requestStrayCard : Claim7 := { stood := { row := requestStrayRow, standIns := [], harness := (true, "d872ba4bc4392398b78cd1c167023035c4da65fd90c0a61482c10a11d6e25f07"), looks := true }, kinds := [], alts := [], laidByText := true, laidKinds := [.handle], laidTests := true, laidLooks := .later }
def RequestStrayCardSaid : Prop := Claim7.holds Tryd.pinned (.plain (OpenSpec.ofChange requestStraySpec)) requestStrayCard

/-- THE TIED CARD OF 'rovinglaw08.RequestFirst'. -/
def requestFirstCard : Claim7 := { stood := { row := requestFirstRow, standIns := [], harness := (true, "d872ba4bc4392398b78cd1c167023035c4da65fd90c0a61482c10a11d6e25f07"), looks := true }, kinds := [], alts := [], laidByText := true, laidKinds := [.handle], laidTests := true, laidLooks := .later }
def RequestFirstCardSaid : Prop := Claim7.holds Tryd.pinned (.plain (OpenSpec.ofChange requestFirstSpec)) requestFirstCard

/-- THE TIED CARD OF 'rovinglaw08.RequestByte'. -/
def requestByteCard : Claim7 := { stood := { row := requestByteRow, standIns := [], harness := (true, "d872ba4bc4392398b78cd1c167023035c4da65fd90c0a61482c10a11d6e25f07"), looks := true }, kinds := [], alts := [], laidByText := true, laidKinds := [.handle], laidTests := true, laidLooks := .later }
def RequestByteCardSaid : Prop := Claim7.holds Tryd.pinned (.plain (OpenSpec.ofChange requestByteSpec)) requestByteCard

/-- THE SECOND FORM's CARD OF 'rovinglaw02.FieldsRead'. -/
def fieldsReadUptoCard : Claim7 := { stood := { row := fieldsReadUptoRow, standIns := [], harness := (true, "d872ba4bc4392398b78cd1c167023035c4da65fd90c0a61482c10a11d6e25f07"), looks := true }, kinds := [], alts := [], laidByText := true, laidKinds := [.handle], laidTests := true, laidLooks := .later }
def FieldsReadUptoCardSaid : Prop := Claim7.holds Tryd.pinned (.plain (OpenSpec.upto fieldsReadSpec)) fieldsReadUptoCard

/-- THE SECOND FORM's CARD OF 'rovinglaw06.RecordOnce'. -/
def recordOnceUptoCard : Claim7 := { stood := { row := recordOnceUptoRow, standIns := [], harness := (true, "d872ba4bc4392398b78cd1c167023035c4da65fd90c0a61482c10a11d6e25f07"), looks := true }, kinds := [], alts := [], laidByText := true, laidKinds := [.handle], laidTests := true, laidLooks := .later }
def RecordOnceUptoCardSaid : Prop := Claim7.holds Tryd.pinned (.plain (OpenSpec.upto recordOnceSpec)) recordOnceUptoCard

/-- THE SECOND FORM's CARD OF 'rovinglaw06.RecordTells'. -/
def recordTellsUptoCard : Claim7 := { stood := { row := recordTellsUptoRow, standIns := [], harness := (true, "d872ba4bc4392398b78cd1c167023035c4da65fd90c0a61482c10a11d6e25f07"), looks := true }, kinds := [], alts := [], laidByText := true, laidKinds := [.handle], laidTests := true, laidLooks := .later }
def RecordTellsUptoCardSaid : Prop := Claim7.holds Tryd.pinned (.plain (OpenSpec.upto recordTellsSpec)) recordTellsUptoCard

/-- THE SECOND FORM's CARD OF 'rovinglaw02.FieldsWrite'. -/
def fieldsWriteUptoCard : Claim7 := { stood := { row := fieldsWriteUptoRow, standIns := [], harness := (true, "d872ba4bc4392398b78cd1c167023035c4da65fd90c0a61482c10a11d6e25f07"), looks := true }, kinds := [], alts := [], laidByText := true, laidKinds := [.handle], laidTests := true, laidLooks := .later }
def FieldsWriteUptoCardSaid : Prop := Claim7.holds Tryd.pinned (.plain (OpenSpec.upto fieldsWriteSpec)) fieldsWriteUptoCard

/-- THE SECOND FORM's CARD OF 'rovinglaw02.FieldsBack'. -/
def fieldsBackUptoCard : Claim7 := { stood := { row := fieldsBackUptoRow, standIns := [], harness := (true, "d872ba4bc4392398b78cd1c167023035c4da65fd90c0a61482c10a11d6e25f07"), looks := true }, kinds := [], alts := [], laidByText := true, laidKinds := [.handle], laidTests := true, laidLooks := .later }
def FieldsBackUptoCardSaid : Prop := Claim7.holds Tryd.pinned (.plain (OpenSpec.upto fieldsBackSpec)) fieldsBackUptoCard

/-- THE SECOND FORM's CARD OF 'rovinglaw06.RecordReads'. -/
def recordReadsUptoCard : Claim7 := { stood := { row := recordReadsUptoRow, standIns := [], harness := (true, "d872ba4bc4392398b78cd1c167023035c4da65fd90c0a61482c10a11d6e25f07"), looks := true }, kinds := [], alts := [], laidByText := true, laidKinds := [.handle], laidTests := true, laidLooks := .later }
def RecordReadsUptoCardSaid : Prop := Claim7.holds Tryd.pinned (.plain (OpenSpec.upto recordReadsSpec)) recordReadsUptoCard

/-- THE SECOND FORM's CARD OF 'rovinglaw06.RecordBack'. -/
def recordBackUptoCard : Claim7 := { stood := { row := recordBackUptoRow, standIns := [], harness := (true, "d872ba4bc4392398b78cd1c167023035c4da65fd90c0a61482c10a11d6e25f07"), looks := true }, kinds := [], alts := [], laidByText := true, laidKinds := [.handle], laidTests := true, laidLooks := .later }
def RecordBackUptoCardSaid : Prop := Claim7.holds Tryd.pinned (.plain (OpenSpec.upto recordBackSpec)) recordBackUptoCard

/-- THE SECOND FORM's CARD OF 'rovinglaw08.RequestStray'. -/
def requestStrayUptoCard : Claim7 := { stood := { row := requestStrayUptoRow, standIns := [], harness := (true, "d872ba4bc4392398b78cd1c167023035c4da65fd90c0a61482c10a11d6e25f07"), looks := true }, kinds := [], alts := [], laidByText := true, laidKinds := [.handle], laidTests := true, laidLooks := .later }
def RequestStrayUptoCardSaid : Prop := Claim7.holds Tryd.pinned (.plain (OpenSpec.upto requestStraySpec)) requestStrayUptoCard

/-- THE SECOND FORM's CARD OF 'rovinglaw08.RequestFirst'. -/
def requestFirstUptoCard : Claim7 := { stood := { row := requestFirstUptoRow, standIns := [], harness := (true, "d872ba4bc4392398b78cd1c167023035c4da65fd90c0a61482c10a11d6e25f07"), looks := true }, kinds := [], alts := [], laidByText := true, laidKinds := [.handle], laidTests := true, laidLooks := .later }
def RequestFirstUptoCardSaid : Prop := Claim7.holds Tryd.pinned (.plain (OpenSpec.upto requestFirstSpec)) requestFirstUptoCard

/-- THE SECOND FORM's CARD OF 'rovinglaw08.RequestByte'. -/
def requestByteUptoCard : Claim7 := { stood := { row := requestByteUptoRow, standIns := [], harness := (true, "d872ba4bc4392398b78cd1c167023035c4da65fd90c0a61482c10a11d6e25f07"), looks := true }, kinds := [], alts := [], laidByText := true, laidKinds := [.handle], laidTests := true, laidLooks := .later }
def RequestByteUptoCardSaid : Prop := Claim7.holds Tryd.pinned (.plain (OpenSpec.upto requestByteSpec)) requestByteUptoCard
end Rows
end Go.Proofs.YtcockikekgmfkaaDoor
