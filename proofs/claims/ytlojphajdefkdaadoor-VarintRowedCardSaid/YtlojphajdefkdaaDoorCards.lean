/-
  DERIVED. GIVEN WITH THE SEED: THE CARDS: each row of YtlojphajdefkdaaDoorRows.lean that lists a variable, with what it lists TIED to the program's text (the seventh form; the later family's looks); each row that meets fmt, with fmt's text TOLD by the authors' own Lean function (tested against real Go, not proved from fmt's source: count such statements apart). THE CARD IS WHAT COUNTS. Prove the row's statement (the work); the ties are given (YtlojphajdefkdaaDoorTie.lean); close each card by the builder's one call (the guide's Derived/Test/ToyasCard.lean, 'card_holds'). Laid BY PROGRAM, IN A SANDBOX (cutbox-door.mjs). By AI agents, Wed Nov 11 2026. No macro, syntax, notation, axiom, sorry.
-/
import Derived.Test.YtlojphajdefkdaaDoorRows
import GoSem.ClaimSeven
namespace Go.Proofs.YtlojphajdefkdaaDoor
namespace Rows

/-- THE TIED CARD OF 'rovinglaw01.VarintTells'. -/
def varintTellsCard : Claim7 := { stood := { row := varintTellsRow, standIns := [], harness := (true, "61215c3fe37573002e6f2c023b1d0c045f7a508b1c0e67f70f1f4cac45db673d"), looks := true }, kinds := [], alts := [], laidByText := true, laidKinds := [.handle], laidTests := true, laidLooks := .later }
def VarintTellsCardSaid : Prop := Claim7.holds Tryd.pinned (.plain (OpenSpec.ofChange varintTellsSpec)) varintTellsCard

/-- THE TIED CARD OF 'rovinglaw01.VarintBack'. -/
def varintBackCard : Claim7 := { stood := { row := varintBackRow, standIns := [], harness := (true, "61215c3fe37573002e6f2c023b1d0c045f7a508b1c0e67f70f1f4cac45db673d"), looks := true }, kinds := [], alts := [], laidByText := true, laidKinds := [.handle], laidTests := true, laidLooks := .later }
def VarintBackCardSaid : Prop := Claim7.holds Tryd.pinned (.plain (OpenSpec.ofChange varintBackSpec)) varintBackCard

/-- THE TIED CARD OF 'rovinglaw01.VarintOnly'. -/
def varintOnlyCard : Claim7 := { stood := { row := varintOnlyRow, standIns := [], harness := (true, "61215c3fe37573002e6f2c023b1d0c045f7a508b1c0e67f70f1f4cac45db673d"), looks := true }, kinds := [], alts := [], laidByText := true, laidKinds := [.handle], laidTests := true, laidLooks := .later }
def VarintOnlyCardSaid : Prop := Claim7.holds Tryd.pinned (.plain (OpenSpec.ofChange varintOnlySpec)) varintOnlyCard

/-- THE TIED CARD OF 'rovinglaw01.VarintShort'. -/
def varintShortCard : Claim7 := { stood := { row := varintShortRow, standIns := [], harness := (true, "61215c3fe37573002e6f2c023b1d0c045f7a508b1c0e67f70f1f4cac45db673d"), looks := true }, kinds := [], alts := [], laidByText := true, laidKinds := [.handle], laidTests := true, laidLooks := .later }
def VarintShortCardSaid : Prop := Claim7.holds Tryd.pinned (.plain (OpenSpec.ofChange varintShortSpec)) varintShortCard

/-- THE TIED CARD OF 'rovinglaw01.VarintRows'. -/
def varintRowsCard : Claim7 := { stood := { row := varintRowsRow, standIns := [], harness := (true, "61215c3fe37573002e6f2c023b1d0c045f7a508b1c0e67f70f1f4cac45db673d"), looks := true }, kinds := [], alts := [], laidByText := true, laidKinds := [.handle], laidTests := true, laidLooks := .later }
def VarintRowsCardSaid : Prop := Claim7.holds Tryd.pinned (.plain (OpenSpec.ofChange varintRowsSpec)) varintRowsCard

/-- THE TIED CARD OF 'rovinglaw01.VarintRowed'. -/
def varintRowedCard : Claim7 := { stood := { row := varintRowedRow, standIns := [], harness := (true, "61215c3fe37573002e6f2c023b1d0c045f7a508b1c0e67f70f1f4cac45db673d"), looks := true }, kinds := [], alts := [], laidByText := true, laidKinds := [.handle], laidTests := true, laidLooks := .later }
def VarintRowedCardSaid : Prop := Claim7.holds Tryd.pinned (.plain (OpenSpec.ofChange varintRowedSpec)) varintRowedCard

/-- THE SECOND FORM's CARD OF 'rovinglaw01.VarintTells'. -/
def varintTellsUptoCard : Claim7 := { stood := { row := varintTellsUptoRow, standIns := [], harness := (true, "61215c3fe37573002e6f2c023b1d0c045f7a508b1c0e67f70f1f4cac45db673d"), looks := true }, kinds := [], alts := [], laidByText := true, laidKinds := [.handle], laidTests := true, laidLooks := .later }
def VarintTellsUptoCardSaid : Prop := Claim7.holds Tryd.pinned (.plain (OpenSpec.upto varintTellsSpec)) varintTellsUptoCard

/-- THE SECOND FORM's CARD OF 'rovinglaw01.VarintBack'. -/
def varintBackUptoCard : Claim7 := { stood := { row := varintBackUptoRow, standIns := [], harness := (true, "61215c3fe37573002e6f2c023b1d0c045f7a508b1c0e67f70f1f4cac45db673d"), looks := true }, kinds := [], alts := [], laidByText := true, laidKinds := [.handle], laidTests := true, laidLooks := .later }
def VarintBackUptoCardSaid : Prop := Claim7.holds Tryd.pinned (.plain (OpenSpec.upto varintBackSpec)) varintBackUptoCard

/-- THE SECOND FORM's CARD OF 'rovinglaw01.VarintOnly'. -/
def varintOnlyUptoCard : Claim7 := { stood := { row := varintOnlyUptoRow, standIns := [], harness := (true, "61215c3fe37573002e6f2c023b1d0c045f7a508b1c0e67f70f1f4cac45db673d"), looks := true }, kinds := [], alts := [], laidByText := true, laidKinds := [.handle], laidTests := true, laidLooks := .later }
def VarintOnlyUptoCardSaid : Prop := Claim7.holds Tryd.pinned (.plain (OpenSpec.upto varintOnlySpec)) varintOnlyUptoCard

/-- THE SECOND FORM's CARD OF 'rovinglaw01.VarintShort'. -/
def varintShortUptoCard : Claim7 := { stood := { row := varintShortUptoRow, standIns := [], harness := (true, "61215c3fe37573002e6f2c023b1d0c045f7a508b1c0e67f70f1f4cac45db673d"), looks := true }, kinds := [], alts := [], laidByText := true, laidKinds := [.handle], laidTests := true, laidLooks := .later }
def VarintShortUptoCardSaid : Prop := Claim7.holds Tryd.pinned (.plain (OpenSpec.upto varintShortSpec)) varintShortUptoCard

/-- THE SECOND FORM's CARD OF 'rovinglaw01.VarintRows'. -/
def varintRowsUptoCard : Claim7 := { stood := { row := varintRowsUptoRow, standIns := [], harness := (true, "61215c3fe37573002e6f2c023b1d0c045f7a508b1c0e67f70f1f4cac45db673d"), looks := true }, kinds := [], alts := [], laidByText := true, laidKinds := [.handle], laidTests := true, laidLooks := .later }
def VarintRowsUptoCardSaid : Prop := Claim7.holds Tryd.pinned (.plain (OpenSpec.upto varintRowsSpec)) varintRowsUptoCard

/-- THE SECOND FORM's CARD OF 'rovinglaw01.VarintRowed'. -/
def varintRowedUptoCard : Claim7 := { stood := { row := varintRowedUptoRow, standIns := [], harness := (true, "61215c3fe37573002e6f2c023b1d0c045f7a508b1c0e67f70f1f4cac45db673d"), looks := true }, kinds := [], alts := [], laidByText := true, laidKinds := [.handle], laidTests := true, laidLooks := .later }
def VarintRowedUptoCardSaid : Prop := Claim7.holds Tryd.pinned (.plain (OpenSpec.upto varintRowedSpec)) varintRowedUptoCard
end Rows
end Go.Proofs.YtlojphajdefkdaaDoor
