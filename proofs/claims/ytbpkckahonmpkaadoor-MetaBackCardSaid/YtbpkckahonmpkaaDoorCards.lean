/-
  DERIVED. GIVEN WITH THE SEED: THE CARDS: each row of YtbpkckahonmpkaaDoorRows.lean that lists a variable, with what it lists TIED to the program's text (the seventh form; the later family's looks); each row that meets fmt, with fmt's text TOLD by the authors' own Lean function (tested against real Go, not proved from fmt's source: count such statements apart). THE CARD IS WHAT COUNTS. Prove the row's statement (the work); the ties are given (YtbpkckahonmpkaaDoorTie.lean); close each card by the builder's one call (the guide's Derived/Test/ToyasCard.lean, 'card_holds'). Laid BY PROGRAM, IN A SANDBOX (cutbox-door.mjs). By AI agents, Wed Nov 11 2026. No macro, syntax, notation, axiom, sorry.
-/
import Derived.Test.YtbpkckahonmpkaaDoorRows
import GoSem.ClaimSeven
namespace Go.Proofs.YtbpkckahonmpkaaDoor
namespace Rows

/-- THE TIED CARD OF 'rovinglaw20.MetaNext'. -/
def metaNextCard : Claim7 := { stood := { row := metaNextRow, standIns := [], harness := (true, "7c48ee31f1db7dd0d3c69d35c78a3b194025d18b70ac69637976b4f51de2644c"), looks := true }, kinds := [], alts := [], laidByText := true, laidKinds := [.handle], laidTests := true, laidLooks := .later }
def MetaNextCardSaid : Prop := Claim7.holds Tryd.pinned (.plain (OpenSpec.ofChange metaNextSpec)) metaNextCard

/-- THE TIED CARD OF 'rovinglaw20.MetaOffsets'. -/
def metaOffsetsCard : Claim7 := { stood := { row := metaOffsetsRow, standIns := [], harness := (true, "7c48ee31f1db7dd0d3c69d35c78a3b194025d18b70ac69637976b4f51de2644c"), looks := true }, kinds := [], alts := [], laidByText := true, laidKinds := [.handle], laidTests := true, laidLooks := .later }
def MetaOffsetsCardSaid : Prop := Claim7.holds Tryd.pinned (.plain (OpenSpec.ofChange metaOffsetsSpec)) metaOffsetsCard

/-- THE TIED CARD OF 'rovinglaw20.MetaTurns'. -/
def metaTurnsCard : Claim7 := { stood := { row := metaTurnsRow, standIns := [], harness := (true, "7c48ee31f1db7dd0d3c69d35c78a3b194025d18b70ac69637976b4f51de2644c"), looks := true }, kinds := [], alts := [], laidByText := true, laidKinds := [.handle], laidTests := true, laidLooks := .later }
def MetaTurnsCardSaid : Prop := Claim7.holds Tryd.pinned (.plain (OpenSpec.ofChange metaTurnsSpec)) metaTurnsCard

/-- THE TIED CARD OF 'rovinglaw20.MetaBack'. -/
def metaBackCard : Claim7 := { stood := { row := metaBackRow, standIns := [], harness := (true, "7c48ee31f1db7dd0d3c69d35c78a3b194025d18b70ac69637976b4f51de2644c"), looks := true }, kinds := [], alts := [], laidByText := true, laidKinds := [.handle], laidTests := true, laidLooks := .later }
def MetaBackCardSaid : Prop := Claim7.holds Tryd.pinned (.plain (OpenSpec.ofChange metaBackSpec)) metaBackCard

/-- THE SECOND FORM's CARD OF 'rovinglaw20.MetaNext'. -/
def metaNextUptoCard : Claim7 := { stood := { row := metaNextUptoRow, standIns := [], harness := (true, "7c48ee31f1db7dd0d3c69d35c78a3b194025d18b70ac69637976b4f51de2644c"), looks := true }, kinds := [], alts := [], laidByText := true, laidKinds := [.handle], laidTests := true, laidLooks := .later }
def MetaNextUptoCardSaid : Prop := Claim7.holds Tryd.pinned (.plain (OpenSpec.upto metaNextSpec)) metaNextUptoCard

/-- THE SECOND FORM's CARD OF 'rovinglaw20.MetaOffsets'. -/
def metaOffsetsUptoCard : Claim7 := { stood := { row := metaOffsetsUptoRow, standIns := [], harness := (true, "7c48ee31f1db7dd0d3c69d35c78a3b194025d18b70ac69637976b4f51de2644c"), looks := true }, kinds := [], alts := [], laidByText := true, laidKinds := [.handle], laidTests := true, laidLooks := .later }
def MetaOffsetsUptoCardSaid : Prop := Claim7.holds Tryd.pinned (.plain (OpenSpec.upto metaOffsetsSpec)) metaOffsetsUptoCard

/-- THE SECOND FORM's CARD OF 'rovinglaw20.MetaTurns'. -/
def metaTurnsUptoCard : Claim7 := { stood := { row := metaTurnsUptoRow, standIns := [], harness := (true, "7c48ee31f1db7dd0d3c69d35c78a3b194025d18b70ac69637976b4f51de2644c"), looks := true }, kinds := [], alts := [], laidByText := true, laidKinds := [.handle], laidTests := true, laidLooks := .later }
def MetaTurnsUptoCardSaid : Prop := Claim7.holds Tryd.pinned (.plain (OpenSpec.upto metaTurnsSpec)) metaTurnsUptoCard

/-- THE SECOND FORM's CARD OF 'rovinglaw20.MetaBack'. -/
def metaBackUptoCard : Claim7 := { stood := { row := metaBackUptoRow, standIns := [], harness := (true, "7c48ee31f1db7dd0d3c69d35c78a3b194025d18b70ac69637976b4f51de2644c"), looks := true }, kinds := [], alts := [], laidByText := true, laidKinds := [.handle], laidTests := true, laidLooks := .later }
def MetaBackUptoCardSaid : Prop := Claim7.holds Tryd.pinned (.plain (OpenSpec.upto metaBackSpec)) metaBackUptoCard
end Rows
end Go.Proofs.YtbpkckahonmpkaaDoor
