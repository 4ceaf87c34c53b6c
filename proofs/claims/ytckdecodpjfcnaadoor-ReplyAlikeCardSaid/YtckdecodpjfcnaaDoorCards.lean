/-
  DERIVED. GIVEN WITH THE SEED: THE CARDS: each row of YtckdecodpjfcnaaDoorRows.lean that lists a variable, with what it lists TIED to the program's text (the seventh form; the later family's looks); each row that meets fmt, with fmt's text TOLD by the authors' own Lean function (tested against real Go, not proved from fmt's source: count such statements apart). THE CARD IS WHAT COUNTS. Prove the row's statement (the work); the ties are given (YtckdecodpjfcnaaDoorTie.lean); close each card by the builder's one call (the guide's Derived/Test/ToyasCard.lean, 'card_holds'). Laid BY PROGRAM, IN A SANDBOX (cutbox-door.mjs). By AI agents, Wed Nov 11 2026. No macro, syntax, notation, axiom, sorry.
-/
import Derived.Test.YtckdecodpjfcnaaDoorRows
import GoSem.ClaimSeven
namespace Go.Proofs.YtckdecodpjfcnaaDoor
namespace Rows

/-- THE TIED CARD OF 'rovinglaw09.ReplyBack'. -/
def replyBackCard : Claim7 := { stood := { row := replyBackRow, standIns := [], harness := (true, "abce743aa4dfd52c9ca0fb998671dcb3caea15a12d4efe2b2f8913ed6d28d85c"), looks := true }, kinds := [], alts := [], laidByText := true, laidKinds := [.handle], laidTests := true, laidLooks := .later }
def ReplyBackCardSaid : Prop := Claim7.holds Tryd.pinned (.plain (OpenSpec.ofChange replyBackSpec)) replyBackCard

/-- THE TIED CARD OF 'rovinglaw09.ReplyAlike'. -/
def replyAlikeCard : Claim7 := { stood := { row := replyAlikeRow, standIns := [], harness := (true, "abce743aa4dfd52c9ca0fb998671dcb3caea15a12d4efe2b2f8913ed6d28d85c"), looks := true }, kinds := [], alts := [], laidByText := true, laidKinds := [.handle], laidTests := true, laidLooks := .later }
def ReplyAlikeCardSaid : Prop := Claim7.holds Tryd.pinned (.plain (OpenSpec.ofChange replyAlikeSpec)) replyAlikeCard

/-- THE TIED CARD OF 'rovinglaw09.ReplyErrors'. -/
def replyErrorsCard : Claim7 := { stood := { row := replyErrorsRow, standIns := [], harness := (true, "abce743aa4dfd52c9ca0fb998671dcb3caea15a12d4efe2b2f8913ed6d28d85c"), looks := true }, kinds := [], alts := [], laidByText := true, laidKinds := [.handle], laidTests := true, laidLooks := .later }
def ReplyErrorsCardSaid : Prop := Claim7.holds Tryd.pinned (.plain (OpenSpec.ofChange replyErrorsSpec)) replyErrorsCard

/-- THE SECOND FORM's CARD OF 'rovinglaw09.ReplyBack'. -/
def replyBackUptoCard : Claim7 := { stood := { row := replyBackUptoRow, standIns := [], harness := (true, "abce743aa4dfd52c9ca0fb998671dcb3caea15a12d4efe2b2f8913ed6d28d85c"), looks := true }, kinds := [], alts := [], laidByText := true, laidKinds := [.handle], laidTests := true, laidLooks := .later }
def ReplyBackUptoCardSaid : Prop := Claim7.holds Tryd.pinned (.plain (OpenSpec.upto replyBackSpec)) replyBackUptoCard

/-- THE SECOND FORM's CARD OF 'rovinglaw09.ReplyAlike'. -/
def replyAlikeUptoCard : Claim7 := { stood := { row := replyAlikeUptoRow, standIns := [], harness := (true, "abce743aa4dfd52c9ca0fb998671dcb3caea15a12d4efe2b2f8913ed6d28d85c"), looks := true }, kinds := [], alts := [], laidByText := true, laidKinds := [.handle], laidTests := true, laidLooks := .later }
def ReplyAlikeUptoCardSaid : Prop := Claim7.holds Tryd.pinned (.plain (OpenSpec.upto replyAlikeSpec)) replyAlikeUptoCard

/-- THE SECOND FORM's CARD OF 'rovinglaw09.ReplyErrors'. -/
def replyErrorsUptoCard : Claim7 := { stood := { row := replyErrorsUptoRow, standIns := [], harness := (true, "abce743aa4dfd52c9ca0fb998671dcb3caea15a12d4efe2b2f8913ed6d28d85c"), looks := true }, kinds := [], alts := [], laidByText := true, laidKinds := [.handle], laidTests := true, laidLooks := .later }
def ReplyErrorsUptoCardSaid : Prop := Claim7.holds Tryd.pinned (.plain (OpenSpec.upto replyErrorsSpec)) replyErrorsUptoCard
end Rows
end Go.Proofs.YtckdecodpjfcnaaDoor
