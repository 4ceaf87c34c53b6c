/-
  NARROWER THAN 'FOR EVERY INPUT', by the rows' own cells (each row's printed sentence says how): MetaNext: laid · MetaOffsets: laid · MetaTurns: laid · MetaBack: laid.
  DERIVED. THE GIVEN ROWS OF THIS SEAT. 4 by the template 'for every input the law returns true; each argument reads behind the call as it read before'; 0 by the template 'total and deterministic' (their statements: YtbpkckahonmpkaaDoorTotals.lean).
  GIVEN WITH THE SEED: the statements are not yours to turn. If you find one false, say at which input.
  Laid BY PROGRAM, IN A SANDBOX (cutbox-rows.mjs): the forced cells as the released guide's own fill.sh prints them over the translation 5e8e2749e0194fc4… (all of the seat's roots in one cut). By AI agents, Wed Nov 11 2026. No macro, syntax, notation, axiom, sorry.
-/
import Derived.Test.YtbpkckahonmpkaaDoorChecked
import GoSem.Claim
import GoSem.ClaimJoined
import GoSem.ClaimMapViews
import Derived.JoinedTies
import Derived.KernelRfl
namespace Go.Proofs.YtbpkckahonmpkaaDoor
/- THE CELL 'sum', in the pinned program and in every row, IS THE sha256 OF THE DUMP (.gsa) THAT YtbpkckahonmpkaaDoorProg.lean LOADS. Nothing in Lean hashes anything: it is a label: what it is worth is what the hold of that sum in a sandbox is worth. -/
noncomputable def Tryd.pinned : Pinned := { name := "ytbpkckahonmpkaadoor", sum := "5e8e2749e0194fc4dee9f548c041d9ad73be6859ce23f9ba73c8d7df2d1a74d9", checked := Tryd.checked }
namespace Rows
def none {H : Type} : Left H := { results := [], args := [] }

/- WHAT THE LISTED PACKAGE-LEVEL VARIABLES READ AS WHEN THE CALL BEGINS. Each datum BY PROGRAM (the guide's laid-datum.mjs) off the statement by which the dump's own 'gosem.cut.vars' lays the variable. In a bare row this is a premise. The card (YtbpkckahonmpkaaDoorCards.lean) ties it to the program's text. -/
def laid_errors_errorType {H : Type} : DataW H := .iface "internal/reflectlite.rtype" (.agg [.ptr (.lit (.string [101, 114, 114, 111, 114]))])

/-- 'rovinglaw20.MetaNext': WHATEVER THE INPUT: true; the input reads as it did. -/
def metaNextSpec : ChangeSpec := { name := "metaNext", fn := fun _ => fun
  | [d1, d2] => { results := [.lit (.bool true)], args := [d1, d2] }
  | _ => none }
def metaNextRow : OpenClaim := { program := "ytbpkckahonmpkaadoor", sum := "5e8e2749e0194fc4dee9f548c041d9ad73be6859ce23f9ba73c8d7df2d1a74d9", func := "roving/rovinglaw20.MetaNext", spec := "metaNext", inPlace := ["internal/reflectlite.TypeOf", "internal/reflectlite.ValueOf", "(internal/reflectlite.Value).Type", "(internal/reflectlite.Value).IsNil", "(internal/reflectlite.Value).Elem", "(internal/reflectlite.Value).Set", "slices.overlaps[roving/api.Pend]"], unfollowed := true, recurses := true, named := ["errors.errorType"], apart := false, laid := [("errors.errorType", laid_errors_errorType)] }
def MetaNextSaid : Prop := metaNextRow.holds Tryd.pinned (OpenSpec.ofChange metaNextSpec)

/-- ITS FALSE NEIGHBOUR: 'it returns false'. Refute it at one input. -/
def metaNextWrong : ChangeSpec := { name := "metaNext", fn := fun _ => fun
  | [d1, d2] => { results := [.lit (.bool false)], args := [d1, d2] }
  | _ => none }
def MetaNextWrongFalsely : Prop := metaNextRow.holds Tryd.pinned (OpenSpec.ofChange metaNextWrong)

/-- 'rovinglaw20.MetaOffsets': WHATEVER THE INPUT: true; the input reads as it did. -/
def metaOffsetsSpec : ChangeSpec := { name := "metaOffsets", fn := fun _ => fun
  | [d] => { results := [.lit (.bool true)], args := [d] }
  | _ => none }
def metaOffsetsRow : OpenClaim := { program := "ytbpkckahonmpkaadoor", sum := "5e8e2749e0194fc4dee9f548c041d9ad73be6859ce23f9ba73c8d7df2d1a74d9", func := "roving/rovinglaw20.MetaOffsets", spec := "metaOffsets", inPlace := ["internal/reflectlite.TypeOf", "internal/reflectlite.ValueOf", "(internal/reflectlite.Value).Type", "(internal/reflectlite.Value).IsNil", "(internal/reflectlite.Value).Elem", "(internal/reflectlite.Value).Set", "slices.overlaps[roving/api.Pend]"], unfollowed := true, recurses := true, named := ["errors.errorType"], apart := false, laid := [("errors.errorType", laid_errors_errorType)] }
def MetaOffsetsSaid : Prop := metaOffsetsRow.holds Tryd.pinned (OpenSpec.ofChange metaOffsetsSpec)

/-- ITS FALSE NEIGHBOUR: 'it returns false'. Refute it at one input. -/
def metaOffsetsWrong : ChangeSpec := { name := "metaOffsets", fn := fun _ => fun
  | [d] => { results := [.lit (.bool false)], args := [d] }
  | _ => none }
def MetaOffsetsWrongFalsely : Prop := metaOffsetsRow.holds Tryd.pinned (OpenSpec.ofChange metaOffsetsWrong)

/-- 'rovinglaw20.MetaTurns': WHATEVER THE INPUT: true; the input reads as it did. -/
def metaTurnsSpec : ChangeSpec := { name := "metaTurns", fn := fun _ => fun
  | [d1, d2, d3] => { results := [.lit (.bool true)], args := [d1, d2, d3] }
  | _ => none }
def metaTurnsRow : OpenClaim := { program := "ytbpkckahonmpkaadoor", sum := "5e8e2749e0194fc4dee9f548c041d9ad73be6859ce23f9ba73c8d7df2d1a74d9", func := "roving/rovinglaw20.MetaTurns", spec := "metaTurns", inPlace := ["internal/reflectlite.TypeOf", "internal/reflectlite.ValueOf", "(internal/reflectlite.Value).Type", "(internal/reflectlite.Value).IsNil", "(internal/reflectlite.Value).Elem", "(internal/reflectlite.Value).Set", "slices.overlaps[roving/api.Pend]"], unfollowed := true, recurses := true, named := ["errors.errorType"], apart := false, laid := [("errors.errorType", laid_errors_errorType)] }
def MetaTurnsSaid : Prop := metaTurnsRow.holds Tryd.pinned (OpenSpec.ofChange metaTurnsSpec)

/-- ITS FALSE NEIGHBOUR: 'it returns false'. Refute it at one input. -/
def metaTurnsWrong : ChangeSpec := { name := "metaTurns", fn := fun _ => fun
  | [d1, d2, d3] => { results := [.lit (.bool false)], args := [d1, d2, d3] }
  | _ => none }
def MetaTurnsWrongFalsely : Prop := metaTurnsRow.holds Tryd.pinned (OpenSpec.ofChange metaTurnsWrong)

/-- 'rovinglaw20.MetaBack': WHATEVER THE INPUT: true; the input reads as it did. -/
def metaBackSpec : ChangeSpec := { name := "metaBack", fn := fun _ => fun
  | [d] => { results := [.lit (.bool true)], args := [d] }
  | _ => none }
def metaBackRow : OpenClaim := { program := "ytbpkckahonmpkaadoor", sum := "5e8e2749e0194fc4dee9f548c041d9ad73be6859ce23f9ba73c8d7df2d1a74d9", func := "roving/rovinglaw20.MetaBack", spec := "metaBack", inPlace := ["internal/reflectlite.TypeOf", "internal/reflectlite.ValueOf", "(internal/reflectlite.Value).Type", "(internal/reflectlite.Value).IsNil", "(internal/reflectlite.Value).Elem", "(internal/reflectlite.Value).Set", "slices.overlaps[roving/api.Pend]"], unfollowed := true, recurses := true, named := ["errors.errorType"], apart := false, laid := [("errors.errorType", laid_errors_errorType)] }
def MetaBackSaid : Prop := metaBackRow.holds Tryd.pinned (OpenSpec.ofChange metaBackSpec)

/-- ITS FALSE NEIGHBOUR: 'it returns false'. Refute it at one input. -/
def metaBackWrong : ChangeSpec := { name := "metaBack", fn := fun _ => fun
  | [d] => { results := [.lit (.bool false)], args := [d] }
  | _ => none }
def MetaBackWrongFalsely : Prop := metaBackRow.holds Tryd.pinned (OpenSpec.ofChange metaBackWrong)

/- THE SECOND FORM. 'bulk': how many values and letters a reading holds, each counted each time it is reached (what is shared counts as often as it is met; a slice's spare places count too). A statement '..UptoSaid' is the law's where the arguments, and the package variables that the reading takes, are together of bulk at most 1048576: NARROWER than '..Said'. Prove '..Said' where nothing that the law and all that it calls make is longer than what came in: it says more and counts as full. Else prove '..UptoSaid'. A law counts once. -/
mutual
def uptoBulk {H : Type} : DataW H → Nat
  | .lit (.string bytes) => bytes.length + 1
  | .lit _ => 1
  | .nil => 1
  | .ptr d => uptoBulk d + 1
  | .slice elems spare => uptoBulkAll elems + uptoBulkAll spare + 1
  | .agg parts => uptoBulkAll parts + 1
  | .iface _ d => uptoBulk d + 1
  | .map entries => uptoBulkEntries entries + 1
  | .held _ => 1
def uptoBulkAll {H : Type} : List (DataW H) → Nat
  | [] => 0
  | d :: r => uptoBulk d + uptoBulkAll r
def uptoBulkEntries {H : Type} : List (Lit × DataW H) → Nat
  | [] => 0
  | x :: r => uptoBulkEntry x + uptoBulkEntries r
def uptoBulkEntry {H : Type} : Lit × DataW H → Nat
  | (.string bytes, d) => bytes.length + uptoBulk d + 1
  | (_, d) => uptoBulk d + 1
 end
def uptoSmall : (H : Type) → List (DataW H) → Bool := fun _ ds => decide (uptoBulkAll ds ≤ 1048576)
def OpenSpec.upto (s : _root_.Go.ChangeSpec) : _root_.Go.OpenSpec := { _root_.Go.OpenSpec.ofChange s with cond := some uptoSmall }

/-- 'rovinglaw20.MetaNext', WHERE WHAT IT READS IS OF BULK AT MOST 1048576: true; the input reads as it did. -/
def metaNextUptoRow : OpenClaim := { program := "ytbpkckahonmpkaadoor", sum := "5e8e2749e0194fc4dee9f548c041d9ad73be6859ce23f9ba73c8d7df2d1a74d9", func := "roving/rovinglaw20.MetaNext", spec := "metaNext", inPlace := ["internal/reflectlite.TypeOf", "internal/reflectlite.ValueOf", "(internal/reflectlite.Value).Type", "(internal/reflectlite.Value).IsNil", "(internal/reflectlite.Value).Elem", "(internal/reflectlite.Value).Set", "slices.overlaps[roving/api.Pend]"], unfollowed := true, recurses := true, named := ["errors.errorType"], apart := false, laid := [("errors.errorType", laid_errors_errorType)], narrowed := true }
def MetaNextUptoSaid : Prop := metaNextUptoRow.holds Tryd.pinned (OpenSpec.upto metaNextSpec)

/-- 'rovinglaw20.MetaOffsets', WHERE WHAT IT READS IS OF BULK AT MOST 1048576: true; the input reads as it did. -/
def metaOffsetsUptoRow : OpenClaim := { program := "ytbpkckahonmpkaadoor", sum := "5e8e2749e0194fc4dee9f548c041d9ad73be6859ce23f9ba73c8d7df2d1a74d9", func := "roving/rovinglaw20.MetaOffsets", spec := "metaOffsets", inPlace := ["internal/reflectlite.TypeOf", "internal/reflectlite.ValueOf", "(internal/reflectlite.Value).Type", "(internal/reflectlite.Value).IsNil", "(internal/reflectlite.Value).Elem", "(internal/reflectlite.Value).Set", "slices.overlaps[roving/api.Pend]"], unfollowed := true, recurses := true, named := ["errors.errorType"], apart := false, laid := [("errors.errorType", laid_errors_errorType)], narrowed := true }
def MetaOffsetsUptoSaid : Prop := metaOffsetsUptoRow.holds Tryd.pinned (OpenSpec.upto metaOffsetsSpec)

/-- 'rovinglaw20.MetaTurns', WHERE WHAT IT READS IS OF BULK AT MOST 1048576: true; the input reads as it did. -/
def metaTurnsUptoRow : OpenClaim := { program := "ytbpkckahonmpkaadoor", sum := "5e8e2749e0194fc4dee9f548c041d9ad73be6859ce23f9ba73c8d7df2d1a74d9", func := "roving/rovinglaw20.MetaTurns", spec := "metaTurns", inPlace := ["internal/reflectlite.TypeOf", "internal/reflectlite.ValueOf", "(internal/reflectlite.Value).Type", "(internal/reflectlite.Value).IsNil", "(internal/reflectlite.Value).Elem", "(internal/reflectlite.Value).Set", "slices.overlaps[roving/api.Pend]"], unfollowed := true, recurses := true, named := ["errors.errorType"], apart := false, laid := [("errors.errorType", laid_errors_errorType)], narrowed := true }
def MetaTurnsUptoSaid : Prop := metaTurnsUptoRow.holds Tryd.pinned (OpenSpec.upto metaTurnsSpec)

/-- 'rovinglaw20.MetaBack', WHERE WHAT IT READS IS OF BULK AT MOST 1048576: true; the input reads as it did. -/
def metaBackUptoRow : OpenClaim := { program := "ytbpkckahonmpkaadoor", sum := "5e8e2749e0194fc4dee9f548c041d9ad73be6859ce23f9ba73c8d7df2d1a74d9", func := "roving/rovinglaw20.MetaBack", spec := "metaBack", inPlace := ["internal/reflectlite.TypeOf", "internal/reflectlite.ValueOf", "(internal/reflectlite.Value).Type", "(internal/reflectlite.Value).IsNil", "(internal/reflectlite.Value).Elem", "(internal/reflectlite.Value).Set", "slices.overlaps[roving/api.Pend]"], unfollowed := true, recurses := true, named := ["errors.errorType"], apart := false, laid := [("errors.errorType", laid_errors_errorType)], narrowed := true }
def MetaBackUptoSaid : Prop := metaBackUptoRow.holds Tryd.pinned (OpenSpec.upto metaBackSpec)

end Rows
end Go.Proofs.YtbpkckahonmpkaaDoor
