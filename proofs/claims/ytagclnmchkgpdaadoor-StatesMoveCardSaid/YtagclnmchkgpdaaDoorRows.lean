/-
  NARROWER THAN 'FOR EVERY INPUT', by the rows' own cells (each row's printed sentence says how): StatesTell: laid · StatesPlace: laid · StatesMove: laid · StatesOld: laid · StatesRun: laid.
  DERIVED. THE GIVEN ROWS OF THIS SEAT. 5 by the template 'for every input the law returns true; each argument reads behind the call as it read before'; 0 by the template 'total and deterministic' (their statements: YtagclnmchkgpdaaDoorTotals.lean).
  GIVEN WITH THE SEED: the statements are not yours to turn. If you find one false, say at which input.
  Laid BY PROGRAM, IN A SANDBOX (cutbox-rows.mjs): the forced cells as the released guide's own fill.sh prints them over the translation d2bf81061376d117… (all of the seat's roots in one cut). By AI agents, Wed Nov 11 2026. No macro, syntax, notation, axiom, sorry.
-/
import Derived.Test.YtagclnmchkgpdaaDoorChecked
import GoSem.Claim
import GoSem.ClaimJoined
import GoSem.ClaimMapViews
import Derived.JoinedTies
import Derived.KernelRfl
namespace Go.Proofs.YtagclnmchkgpdaaDoor
/- THE CELL 'sum', in the pinned program and in every row, IS THE sha256 OF THE DUMP (.gsa) THAT YtagclnmchkgpdaaDoorProg.lean LOADS. Nothing in Lean hashes anything: it is a label: what it is worth is what the hold of that sum in a sandbox is worth. -/
noncomputable def Tryd.pinned : Pinned := { name := "ytagclnmchkgpdaadoor", sum := "d2bf81061376d1179c24afdccaaf40e96821e2f26f66012869a708958fcd89aa", checked := Tryd.checked }
namespace Rows
def none {H : Type} : Left H := { results := [], args := [] }

/- WHAT THE LISTED PACKAGE-LEVEL VARIABLES READ AS WHEN THE CALL BEGINS. Each datum BY PROGRAM (the guide's laid-datum.mjs) off the statement by which the dump's own 'gosem.cut.vars' lays the variable. In a bare row this is a premise. The card (YtagclnmchkgpdaaDoorCards.lean) ties it to the program's text. -/
def laid_errors_errorType {H : Type} : DataW H := .iface "internal/reflectlite.rtype" (.agg [.ptr (.lit (.string [101, 114, 114, 111, 114]))])

/-- 'rovinglaw18.StatesTell': WHATEVER THE INPUT: true; the input reads as it did. -/
def statesTellSpec : ChangeSpec := { name := "statesTell", fn := fun _ => fun
  | [d1, d2, d3, d4] => { results := [.lit (.bool true)], args := [d1, d2, d3, d4] }
  | _ => none }
def statesTellRow : OpenClaim := { program := "ytagclnmchkgpdaadoor", sum := "d2bf81061376d1179c24afdccaaf40e96821e2f26f66012869a708958fcd89aa", func := "roving/rovinglaw18.StatesTell", spec := "statesTell", inPlace := ["internal/reflectlite.TypeOf", "internal/reflectlite.ValueOf", "(internal/reflectlite.Value).Type", "(internal/reflectlite.Value).IsNil", "(internal/reflectlite.Value).Elem", "(internal/reflectlite.Value).Set"], unfollowed := true, recurses := true, named := ["errors.errorType"], apart := false, laid := [("errors.errorType", laid_errors_errorType)] }
def StatesTellSaid : Prop := statesTellRow.holds Tryd.pinned (OpenSpec.ofChange statesTellSpec)

/-- ITS FALSE NEIGHBOUR: 'it returns false'. Refute it at one input. -/
def statesTellWrong : ChangeSpec := { name := "statesTell", fn := fun _ => fun
  | [d1, d2, d3, d4] => { results := [.lit (.bool false)], args := [d1, d2, d3, d4] }
  | _ => none }
def StatesTellWrongFalsely : Prop := statesTellRow.holds Tryd.pinned (OpenSpec.ofChange statesTellWrong)

/-- 'rovinglaw18.StatesPlace': WHATEVER THE INPUT: true; the input reads as it did. -/
def statesPlaceSpec : ChangeSpec := { name := "statesPlace", fn := fun _ => fun
  | [d1, d2] => { results := [.lit (.bool true)], args := [d1, d2] }
  | _ => none }
def statesPlaceRow : OpenClaim := { program := "ytagclnmchkgpdaadoor", sum := "d2bf81061376d1179c24afdccaaf40e96821e2f26f66012869a708958fcd89aa", func := "roving/rovinglaw18.StatesPlace", spec := "statesPlace", inPlace := ["internal/reflectlite.TypeOf", "internal/reflectlite.ValueOf", "(internal/reflectlite.Value).Type", "(internal/reflectlite.Value).IsNil", "(internal/reflectlite.Value).Elem", "(internal/reflectlite.Value).Set"], unfollowed := true, recurses := true, named := ["errors.errorType"], apart := false, laid := [("errors.errorType", laid_errors_errorType)] }
def StatesPlaceSaid : Prop := statesPlaceRow.holds Tryd.pinned (OpenSpec.ofChange statesPlaceSpec)

/-- ITS FALSE NEIGHBOUR: 'it returns false'. Refute it at one input. -/
def statesPlaceWrong : ChangeSpec := { name := "statesPlace", fn := fun _ => fun
  | [d1, d2] => { results := [.lit (.bool false)], args := [d1, d2] }
  | _ => none }
def StatesPlaceWrongFalsely : Prop := statesPlaceRow.holds Tryd.pinned (OpenSpec.ofChange statesPlaceWrong)

/-- 'rovinglaw18.StatesMove': WHATEVER THE INPUT: true; the input reads as it did. -/
def statesMoveSpec : ChangeSpec := { name := "statesMove", fn := fun _ => fun
  | [d1, d2] => { results := [.lit (.bool true)], args := [d1, d2] }
  | _ => none }
def statesMoveRow : OpenClaim := { program := "ytagclnmchkgpdaadoor", sum := "d2bf81061376d1179c24afdccaaf40e96821e2f26f66012869a708958fcd89aa", func := "roving/rovinglaw18.StatesMove", spec := "statesMove", inPlace := ["internal/reflectlite.TypeOf", "internal/reflectlite.ValueOf", "(internal/reflectlite.Value).Type", "(internal/reflectlite.Value).IsNil", "(internal/reflectlite.Value).Elem", "(internal/reflectlite.Value).Set", "slices.overlaps[int]", "slices.overlaps[roving/api.Pend]"], unfollowed := true, recurses := true, named := ["errors.errorType"], apart := false, laid := [("errors.errorType", laid_errors_errorType)] }
def StatesMoveSaid : Prop := statesMoveRow.holds Tryd.pinned (OpenSpec.ofChange statesMoveSpec)

/-- ITS FALSE NEIGHBOUR: 'it returns false'. Refute it at one input. -/
def statesMoveWrong : ChangeSpec := { name := "statesMove", fn := fun _ => fun
  | [d1, d2] => { results := [.lit (.bool false)], args := [d1, d2] }
  | _ => none }
def StatesMoveWrongFalsely : Prop := statesMoveRow.holds Tryd.pinned (OpenSpec.ofChange statesMoveWrong)

/-- 'rovinglaw18.StatesOld': WHATEVER THE INPUT: true; the input reads as it did. -/
def statesOldSpec : ChangeSpec := { name := "statesOld", fn := fun _ => fun
  | [d1, d2] => { results := [.lit (.bool true)], args := [d1, d2] }
  | _ => none }
def statesOldRow : OpenClaim := { program := "ytagclnmchkgpdaadoor", sum := "d2bf81061376d1179c24afdccaaf40e96821e2f26f66012869a708958fcd89aa", func := "roving/rovinglaw18.StatesOld", spec := "statesOld", inPlace := ["internal/reflectlite.TypeOf", "internal/reflectlite.ValueOf", "(internal/reflectlite.Value).Type", "(internal/reflectlite.Value).IsNil", "(internal/reflectlite.Value).Elem", "(internal/reflectlite.Value).Set", "slices.overlaps[int]", "slices.overlaps[roving/api.Pend]"], unfollowed := true, recurses := true, named := ["errors.errorType"], apart := false, laid := [("errors.errorType", laid_errors_errorType)] }
def StatesOldSaid : Prop := statesOldRow.holds Tryd.pinned (OpenSpec.ofChange statesOldSpec)

/-- ITS FALSE NEIGHBOUR: 'it returns false'. Refute it at one input. -/
def statesOldWrong : ChangeSpec := { name := "statesOld", fn := fun _ => fun
  | [d1, d2] => { results := [.lit (.bool false)], args := [d1, d2] }
  | _ => none }
def StatesOldWrongFalsely : Prop := statesOldRow.holds Tryd.pinned (OpenSpec.ofChange statesOldWrong)

/-- 'rovinglaw18.StatesRun': WHATEVER THE INPUT: true; the input reads as it did. -/
def statesRunSpec : ChangeSpec := { name := "statesRun", fn := fun _ => fun
  | [d] => { results := [.lit (.bool true)], args := [d] }
  | _ => none }
def statesRunRow : OpenClaim := { program := "ytagclnmchkgpdaadoor", sum := "d2bf81061376d1179c24afdccaaf40e96821e2f26f66012869a708958fcd89aa", func := "roving/rovinglaw18.StatesRun", spec := "statesRun", inPlace := ["internal/reflectlite.TypeOf", "internal/reflectlite.ValueOf", "(internal/reflectlite.Value).Type", "(internal/reflectlite.Value).IsNil", "(internal/reflectlite.Value).Elem", "(internal/reflectlite.Value).Set", "slices.overlaps[int]", "slices.overlaps[roving/api.Pend]"], unfollowed := true, recurses := true, named := ["errors.errorType"], apart := false, laid := [("errors.errorType", laid_errors_errorType)] }
def StatesRunSaid : Prop := statesRunRow.holds Tryd.pinned (OpenSpec.ofChange statesRunSpec)

/-- ITS FALSE NEIGHBOUR: 'it returns false'. Refute it at one input. -/
def statesRunWrong : ChangeSpec := { name := "statesRun", fn := fun _ => fun
  | [d] => { results := [.lit (.bool false)], args := [d] }
  | _ => none }
def StatesRunWrongFalsely : Prop := statesRunRow.holds Tryd.pinned (OpenSpec.ofChange statesRunWrong)

/- THE SECOND FORM. 'bulk': how many values and letters a reading holds, each counted each time it is reached (what is shared counts as often as it is met; a slice's spare places count too). A statement '..UptoSaid' is the law's where the arguments, and the package variables that the reading takes, are together of bulk at most 1048576: NARROWER than '..Said'. Prove '..Said' where nothing that the law and all that it calls make is longer than what came in: it says more and counts as full. Else prove '..UptoSaid'. A law counts once. -/
mutual
def uptoBulk {H : Type} : DataW H → Nat
  | .lit (.string bytes) => bytes.length + 1
  | .lit _ => 1
  | .nil => 1
  | .ptr d => uptoBulk d + 1
  | .slice elems spare => uptoBulkAll elems + uptoBulkAll spare + 1
  | .agg parts => uptoBulkAll parts + 1
  | .iface _ d => uptoBulk d + 1
  | .map entries => uptoBulkEntries entries + 1
  | .held _ => 1
def uptoBulkAll {H : Type} : List (DataW H) → Nat
  | [] => 0
  | d :: r => uptoBulk d + uptoBulkAll r
def uptoBulkEntries {H : Type} : List (Lit × DataW H) → Nat
  | [] => 0
  | x :: r => uptoBulkEntry x + uptoBulkEntries r
def uptoBulkEntry {H : Type} : Lit × DataW H → Nat
  | (.string bytes, d) => bytes.length + uptoBulk d + 1
  | (_, d) => uptoBulk d + 1
 end
def uptoSmall : (H : Type) → List (DataW H) → Bool := fun _ ds => decide (uptoBulkAll ds ≤ 1048576)
def OpenSpec.upto (s : _root_.Go.ChangeSpec) : _root_.Go.OpenSpec := { _root_.Go.OpenSpec.ofChange s with cond := some uptoSmall }

/-- 'rovinglaw18.StatesTell', WHERE WHAT IT READS IS OF BULK AT MOST 1048576: true; the input reads as it did. -/
def statesTellUptoRow : OpenClaim := { program := "ytagclnmchkgpdaadoor", sum := "d2bf81061376d1179c24afdccaaf40e96821e2f26f66012869a708958fcd89aa", func := "roving/rovinglaw18.StatesTell", spec := "statesTell", inPlace := ["internal/reflectlite.TypeOf", "internal/reflectlite.ValueOf", "(internal/reflectlite.Value).Type", "(internal/reflectlite.Value).IsNil", "(internal/reflectlite.Value).Elem", "(internal/reflectlite.Value).Set"], unfollowed := true, recurses := true, named := ["errors.errorType"], apart := false, laid := [("errors.errorType", laid_errors_errorType)], narrowed := true }
def StatesTellUptoSaid : Prop := statesTellUptoRow.holds Tryd.pinned (OpenSpec.upto statesTellSpec)

/-- 'rovinglaw18.StatesPlace', WHERE WHAT IT READS IS OF BULK AT MOST 1048576: true; the input reads as it did. -/
def statesPlaceUptoRow : OpenClaim := { program := "ytagclnmchkgpdaadoor", sum := "d2bf81061376d1179c24afdccaaf40e96821e2f26f66012869a708958fcd89aa", func := "roving/rovinglaw18.StatesPlace", spec := "statesPlace", inPlace := ["internal/reflectlite.TypeOf", "internal/reflectlite.ValueOf", "(internal/reflectlite.Value).Type", "(internal/reflectlite.Value).IsNil", "(internal/reflectlite.Value).Elem", "(internal/reflectlite.Value).Set"], unfollowed := true, recurses := true, named := ["errors.errorType"], apart := false, laid := [("errors.errorType", laid_errors_errorType)], narrowed := true }
def StatesPlaceUptoSaid : Prop := statesPlaceUptoRow.holds Tryd.pinned (OpenSpec.upto statesPlaceSpec)

/-- 'rovinglaw18.StatesMove', WHERE WHAT IT READS IS OF BULK AT MOST 1048576: true; the input reads as it did. -/
def statesMoveUptoRow : OpenClaim := { program := "ytagclnmchkgpdaadoor", sum := "d2bf81061376d1179c24afdccaaf40e96821e2f26f66012869a708958fcd89aa", func := "roving/rovinglaw18.StatesMove", spec := "statesMove", inPlace := ["internal/reflectlite.TypeOf", "internal/reflectlite.ValueOf", "(internal/reflectlite.Value).Type", "(internal/reflectlite.Value).IsNil", "(internal/reflectlite.Value).Elem", "(internal/reflectlite.Value).Set", "slices.overlaps[int]", "slices.overlaps[roving/api.Pend]"], unfollowed := true, recurses := true, named := ["errors.errorType"], apart := false, laid := [("errors.errorType", laid_errors_errorType)], narrowed := true }
def StatesMoveUptoSaid : Prop := statesMoveUptoRow.holds Tryd.pinned (OpenSpec.upto statesMoveSpec)

/-- 'rovinglaw18.StatesOld', WHERE WHAT IT READS IS OF BULK AT MOST 1048576: true; the input reads as it did. -/
def statesOldUptoRow : OpenClaim := { program := "ytagclnmchkgpdaadoor", sum := "d2bf81061376d1179c24afdccaaf40e96821e2f26f66012869a708958fcd89aa", func := "roving/rovinglaw18.StatesOld", spec := "statesOld", inPlace := ["internal/reflectlite.TypeOf", "internal/reflectlite.ValueOf", "(internal/reflectlite.Value).Type", "(internal/reflectlite.Value).IsNil", "(internal/reflectlite.Value).Elem", "(internal/reflectlite.Value).Set", "slices.overlaps[int]", "slices.overlaps[roving/api.Pend]"], unfollowed := true, recurses := true, named := ["errors.errorType"], apart := false, laid := [("errors.errorType", laid_errors_errorType)], narrowed := true }
def StatesOldUptoSaid : Prop := statesOldUptoRow.holds Tryd.pinned (OpenSpec.upto statesOldSpec)

/-- 'rovinglaw18.StatesRun', WHERE WHAT IT READS IS OF BULK AT MOST 1048576: true; the input reads as it did. -/
def statesRunUptoRow : OpenClaim := { program := "ytagclnmchkgpdaadoor", sum := "d2bf81061376d1179c24afdccaaf40e96821e2f26f66012869a708958fcd89aa", func := "roving/rovinglaw18.StatesRun", spec := "statesRun", inPlace := ["internal/reflectlite.TypeOf", "internal/reflectlite.ValueOf", "(internal/reflectlite.Value).Type", "(internal/reflectlite.Value).IsNil", "(internal/reflectlite.Value).Elem", "(internal/reflectlite.Value).Set", "slices.overlaps[int]", "slices.overlaps[roving/api.Pend]"], unfollowed := true, recurses := true, named := ["errors.errorType"], apart := false, laid := [("errors.errorType", laid_errors_errorType)], narrowed := true }
def StatesRunUptoSaid : Prop := statesRunUptoRow.holds Tryd.pinned (OpenSpec.upto statesRunSpec)

end Rows
end Go.Proofs.YtagclnmchkgpdaaDoor
