/-
  NARROWER THAN 'FOR EVERY INPUT', by the rows' own cells (each row's printed sentence says how): MetaFolds: laid · MetalogTells: laid · MetalogPuts: laid · MetalogBack: laid · MetalogFrames: laid · MetalogReads: laid.
  DERIVED. THE GIVEN ROWS OF THIS SEAT. 6 by the template 'for every input the law returns true; each argument reads behind the call as it read before'; 0 by the template 'total and deterministic' (their statements: YtbpkckahonmpkaaGreatDoorTotals.lean).
  GIVEN WITH THE SEED: the statements are not yours to turn. If you find one false, say at which input.
  Laid BY PROGRAM, IN A SANDBOX (cutbox-rows.mjs): the forced cells as the released guide's own fill.sh prints them over the translation bdb7f478e08feb8e… (all of the seat's roots in one cut). By AI agents, Wed Nov 11 2026. No macro, syntax, notation, axiom, sorry.
-/
import Derived.Test.YtbpkckahonmpkaaGreatDoorChecked
import GoSem.Claim
import GoSem.ClaimJoined
import GoSem.ClaimMapViews
import Derived.JoinedTies
import Derived.KernelRfl
namespace Go.Proofs.YtbpkckahonmpkaaGreatDoor
/- THE CELL 'sum', in the pinned program and in every row, IS THE sha256 OF THE DUMP (.gsa) THAT YtbpkckahonmpkaaGreatDoorProg.lean LOADS. Nothing in Lean hashes anything: it is a label: what it is worth is what the hold of that sum in a sandbox is worth. -/
noncomputable def Tryz.pinned : Pinned := { name := "ytbpkckahonmpkaagreatdoor", sum := "bdb7f478e08feb8e57d3bc3329c4e80e01e8af7cd573cc8a08b2c2be43d04662", checked := Tryz.checked }
namespace Rows
def none {H : Type} : Left H := { results := [], args := [] }

/- WHAT THE LISTED PACKAGE-LEVEL VARIABLES READ AS WHEN THE CALL BEGINS. Each datum BY PROGRAM (the guide's laid-datum.mjs) off the statement by which the dump's own 'gosem.cut.vars' lays the variable. In a bare row this is a premise. The card (YtbpkckahonmpkaaGreatDoorCards.lean) ties it to the program's text. -/
def laid_errors_errorType {H : Type} : DataW H := .iface "internal/reflectlite.rtype" (.agg [.ptr (.lit (.string [101, 114, 114, 111, 114]))])

/-- 'rovinglaw20.MetaFolds': WHATEVER THE INPUT: true; the input reads as it did. -/
def metaFoldsSpec : ChangeSpec := { name := "metaFolds", fn := fun _ => fun
  | [d] => { results := [.lit (.bool true)], args := [d] }
  | _ => none }
def metaFoldsRow : OpenClaim := { program := "ytbpkckahonmpkaagreatdoor", sum := "bdb7f478e08feb8e57d3bc3329c4e80e01e8af7cd573cc8a08b2c2be43d04662", func := "roving/rovinglaw20.MetaFolds", spec := "metaFolds", inPlace := ["internal/reflectlite.TypeOf", "internal/reflectlite.ValueOf", "(internal/reflectlite.Value).Type", "(internal/reflectlite.Value).IsNil", "(internal/reflectlite.Value).Elem", "(internal/reflectlite.Value).Set", "slices.overlaps[roving/api.Pend]"], unfollowed := true, recurses := true, named := ["errors.errorType"], apart := false, laid := [("errors.errorType", laid_errors_errorType)] }
def MetaFoldsSaid : Prop := metaFoldsRow.holds Tryz.pinned (OpenSpec.ofChange metaFoldsSpec)

/-- ITS FALSE NEIGHBOUR: 'it returns false'. Refute it at one input. -/
def metaFoldsWrong : ChangeSpec := { name := "metaFolds", fn := fun _ => fun
  | [d] => { results := [.lit (.bool false)], args := [d] }
  | _ => none }
def MetaFoldsWrongFalsely : Prop := metaFoldsRow.holds Tryz.pinned (OpenSpec.ofChange metaFoldsWrong)

/-- 'rovinglaw19.MetalogTells': WHATEVER THE INPUT: true; the input reads as it did. -/
def metalogTellsSpec : ChangeSpec := { name := "metalogTells", fn := fun _ => fun
  | [d1, d2] => { results := [.lit (.bool true)], args := [d1, d2] }
  | _ => none }
def metalogTellsRow : OpenClaim := { program := "ytbpkckahonmpkaagreatdoor", sum := "bdb7f478e08feb8e57d3bc3329c4e80e01e8af7cd573cc8a08b2c2be43d04662", func := "roving/rovinglaw19.MetalogTells", spec := "metalogTells", inPlace := ["internal/reflectlite.TypeOf", "internal/reflectlite.ValueOf", "(internal/reflectlite.Value).Type", "(internal/reflectlite.Value).IsNil", "(internal/reflectlite.Value).Elem", "(internal/reflectlite.Value).Set"], unfollowed := true, recurses := true, named := ["errors.errorType"], apart := false, laid := [("errors.errorType", laid_errors_errorType)] }
def MetalogTellsSaid : Prop := metalogTellsRow.holds Tryz.pinned (OpenSpec.ofChange metalogTellsSpec)

/-- ITS FALSE NEIGHBOUR: 'it returns false'. Refute it at one input. -/
def metalogTellsWrong : ChangeSpec := { name := "metalogTells", fn := fun _ => fun
  | [d1, d2] => { results := [.lit (.bool false)], args := [d1, d2] }
  | _ => none }
def MetalogTellsWrongFalsely : Prop := metalogTellsRow.holds Tryz.pinned (OpenSpec.ofChange metalogTellsWrong)

/-- 'rovinglaw19.MetalogPuts': WHATEVER THE INPUT: true; the input reads as it did. -/
def metalogPutsSpec : ChangeSpec := { name := "metalogPuts", fn := fun _ => fun
  | [d1, d2] => { results := [.lit (.bool true)], args := [d1, d2] }
  | _ => none }
def metalogPutsRow : OpenClaim := { program := "ytbpkckahonmpkaagreatdoor", sum := "bdb7f478e08feb8e57d3bc3329c4e80e01e8af7cd573cc8a08b2c2be43d04662", func := "roving/rovinglaw19.MetalogPuts", spec := "metalogPuts", inPlace := ["internal/reflectlite.TypeOf", "internal/reflectlite.ValueOf", "(internal/reflectlite.Value).Type", "(internal/reflectlite.Value).IsNil", "(internal/reflectlite.Value).Elem", "(internal/reflectlite.Value).Set"], unfollowed := true, recurses := true, named := ["errors.errorType"], apart := false, laid := [("errors.errorType", laid_errors_errorType)] }
def MetalogPutsSaid : Prop := metalogPutsRow.holds Tryz.pinned (OpenSpec.ofChange metalogPutsSpec)

/-- ITS FALSE NEIGHBOUR: 'it returns false'. Refute it at one input. -/
def metalogPutsWrong : ChangeSpec := { name := "metalogPuts", fn := fun _ => fun
  | [d1, d2] => { results := [.lit (.bool false)], args := [d1, d2] }
  | _ => none }
def MetalogPutsWrongFalsely : Prop := metalogPutsRow.holds Tryz.pinned (OpenSpec.ofChange metalogPutsWrong)

/-- 'rovinglaw19.MetalogBack': WHATEVER THE INPUT: true; the input reads as it did. -/
def metalogBackSpec : ChangeSpec := { name := "metalogBack", fn := fun _ => fun
  | [d1, d2] => { results := [.lit (.bool true)], args := [d1, d2] }
  | _ => none }
def metalogBackRow : OpenClaim := { program := "ytbpkckahonmpkaagreatdoor", sum := "bdb7f478e08feb8e57d3bc3329c4e80e01e8af7cd573cc8a08b2c2be43d04662", func := "roving/rovinglaw19.MetalogBack", spec := "metalogBack", inPlace := ["internal/reflectlite.TypeOf", "internal/reflectlite.ValueOf", "(internal/reflectlite.Value).Type", "(internal/reflectlite.Value).IsNil", "(internal/reflectlite.Value).Elem", "(internal/reflectlite.Value).Set"], unfollowed := true, recurses := true, named := ["errors.errorType"], apart := false, laid := [("errors.errorType", laid_errors_errorType)] }
def MetalogBackSaid : Prop := metalogBackRow.holds Tryz.pinned (OpenSpec.ofChange metalogBackSpec)

/-- ITS FALSE NEIGHBOUR: 'it returns false'. Refute it at one input. -/
def metalogBackWrong : ChangeSpec := { name := "metalogBack", fn := fun _ => fun
  | [d1, d2] => { results := [.lit (.bool false)], args := [d1, d2] }
  | _ => none }
def MetalogBackWrongFalsely : Prop := metalogBackRow.holds Tryz.pinned (OpenSpec.ofChange metalogBackWrong)

/-- 'rovinglaw19.MetalogFrames': WHATEVER THE INPUT: true; the input reads as it did. -/
def metalogFramesSpec : ChangeSpec := { name := "metalogFrames", fn := fun _ => fun
  | [d1, d2] => { results := [.lit (.bool true)], args := [d1, d2] }
  | _ => none }
def metalogFramesRow : OpenClaim := { program := "ytbpkckahonmpkaagreatdoor", sum := "bdb7f478e08feb8e57d3bc3329c4e80e01e8af7cd573cc8a08b2c2be43d04662", func := "roving/rovinglaw19.MetalogFrames", spec := "metalogFrames", inPlace := ["internal/reflectlite.TypeOf", "internal/reflectlite.ValueOf", "(internal/reflectlite.Value).Type", "(internal/reflectlite.Value).IsNil", "(internal/reflectlite.Value).Elem", "(internal/reflectlite.Value).Set"], unfollowed := true, recurses := true, named := ["errors.errorType"], apart := false, laid := [("errors.errorType", laid_errors_errorType)] }
def MetalogFramesSaid : Prop := metalogFramesRow.holds Tryz.pinned (OpenSpec.ofChange metalogFramesSpec)

/-- ITS FALSE NEIGHBOUR: 'it returns false'. Refute it at one input. -/
def metalogFramesWrong : ChangeSpec := { name := "metalogFrames", fn := fun _ => fun
  | [d1, d2] => { results := [.lit (.bool false)], args := [d1, d2] }
  | _ => none }
def MetalogFramesWrongFalsely : Prop := metalogFramesRow.holds Tryz.pinned (OpenSpec.ofChange metalogFramesWrong)

/-- 'rovinglaw19.MetalogReads': WHATEVER THE INPUT: true; the input reads as it did. -/
def metalogReadsSpec : ChangeSpec := { name := "metalogReads", fn := fun _ => fun
  | [d1, d2] => { results := [.lit (.bool true)], args := [d1, d2] }
  | _ => none }
def metalogReadsRow : OpenClaim := { program := "ytbpkckahonmpkaagreatdoor", sum := "bdb7f478e08feb8e57d3bc3329c4e80e01e8af7cd573cc8a08b2c2be43d04662", func := "roving/rovinglaw19.MetalogReads", spec := "metalogReads", inPlace := ["internal/reflectlite.TypeOf", "internal/reflectlite.ValueOf", "(internal/reflectlite.Value).Type", "(internal/reflectlite.Value).IsNil", "(internal/reflectlite.Value).Elem", "(internal/reflectlite.Value).Set"], unfollowed := true, recurses := true, named := ["errors.errorType"], apart := false, laid := [("errors.errorType", laid_errors_errorType)] }
def MetalogReadsSaid : Prop := metalogReadsRow.holds Tryz.pinned (OpenSpec.ofChange metalogReadsSpec)

/-- ITS FALSE NEIGHBOUR: 'it returns false'. Refute it at one input. -/
def metalogReadsWrong : ChangeSpec := { name := "metalogReads", fn := fun _ => fun
  | [d1, d2] => { results := [.lit (.bool false)], args := [d1, d2] }
  | _ => none }
def MetalogReadsWrongFalsely : Prop := metalogReadsRow.holds Tryz.pinned (OpenSpec.ofChange metalogReadsWrong)

/- THE SECOND FORM. 'bulk': how many values and letters a reading holds, each counted each time it is reached (what is shared counts as often as it is met; a slice's spare places count too). A statement '..UptoSaid' is the law's where the arguments, and the package variables that the reading takes, are together of bulk at most 1048576: NARROWER than '..Said'. Prove '..Said' where nothing that the law and all that it calls make is longer than what came in: it says more and counts as full. Else prove '..UptoSaid'. A law counts once. -/
mutual
def uptoBulk {H : Type} : DataW H → Nat
  | .lit (.string bytes) => bytes.length + 1
  | .lit _ => 1
  | .nil => 1
  | .ptr d => uptoBulk d + 1
  | .slice elems spare => uptoBulkAll elems + uptoBulkAll spare + 1
  | .agg parts => uptoBulkAll parts + 1
  | .iface _ d => uptoBulk d + 1
  | .map entries => uptoBulkEntries entries + 1
  | .held _ => 1
def uptoBulkAll {H : Type} : List (DataW H) → Nat
  | [] => 0
  | d :: r => uptoBulk d + uptoBulkAll r
def uptoBulkEntries {H : Type} : List (Lit × DataW H) → Nat
  | [] => 0
  | x :: r => uptoBulkEntry x + uptoBulkEntries r
def uptoBulkEntry {H : Type} : Lit × DataW H → Nat
  | (.string bytes, d) => bytes.length + uptoBulk d + 1
  | (_, d) => uptoBulk d + 1
 end
def uptoSmall : (H : Type) → List (DataW H) → Bool := fun _ ds => decide (uptoBulkAll ds ≤ 1048576)
def OpenSpec.upto (s : _root_.Go.ChangeSpec) : _root_.Go.OpenSpec := { _root_.Go.OpenSpec.ofChange s with cond := some uptoSmall }

/-- 'rovinglaw20.MetaFolds', WHERE WHAT IT READS IS OF BULK AT MOST 1048576: true; the input reads as it did. -/
def metaFoldsUptoRow : OpenClaim := { program := "ytbpkckahonmpkaagreatdoor", sum := "bdb7f478e08feb8e57d3bc3329c4e80e01e8af7cd573cc8a08b2c2be43d04662", func := "roving/rovinglaw20.MetaFolds", spec := "metaFolds", inPlace := ["internal/reflectlite.TypeOf", "internal/reflectlite.ValueOf", "(internal/reflectlite.Value).Type", "(internal/reflectlite.Value).IsNil", "(internal/reflectlite.Value).Elem", "(internal/reflectlite.Value).Set", "slices.overlaps[roving/api.Pend]"], unfollowed := true, recurses := true, named := ["errors.errorType"], apart := false, laid := [("errors.errorType", laid_errors_errorType)], narrowed := true }
def MetaFoldsUptoSaid : Prop := metaFoldsUptoRow.holds Tryz.pinned (OpenSpec.upto metaFoldsSpec)

/-- 'rovinglaw19.MetalogTells', WHERE WHAT IT READS IS OF BULK AT MOST 1048576: true; the input reads as it did. -/
def metalogTellsUptoRow : OpenClaim := { program := "ytbpkckahonmpkaagreatdoor", sum := "bdb7f478e08feb8e57d3bc3329c4e80e01e8af7cd573cc8a08b2c2be43d04662", func := "roving/rovinglaw19.MetalogTells", spec := "metalogTells", inPlace := ["internal/reflectlite.TypeOf", "internal/reflectlite.ValueOf", "(internal/reflectlite.Value).Type", "(internal/reflectlite.Value).IsNil", "(internal/reflectlite.Value).Elem", "(internal/reflectlite.Value).Set"], unfollowed := true, recurses := true, named := ["errors.errorType"], apart := false, laid := [("errors.errorType", laid_errors_errorType)], narrowed := true }
def MetalogTellsUptoSaid : Prop := metalogTellsUptoRow.holds Tryz.pinned (OpenSpec.upto metalogTellsSpec)

/-- 'rovinglaw19.MetalogPuts', WHERE WHAT IT READS IS OF BULK AT MOST 1048576: true; the input reads as it did. -/
def metalogPutsUptoRow : OpenClaim := { program := "ytbpkckahonmpkaagreatdoor", sum := "bdb7f478e08feb8e57d3bc3329c4e80e01e8af7cd573cc8a08b2c2be43d04662", func := "roving/rovinglaw19.MetalogPuts", spec := "metalogPuts", inPlace := ["internal/reflectlite.TypeOf", "internal/reflectlite.ValueOf", "(internal/reflectlite.Value).Type", "(internal/reflectlite.Value).IsNil", "(internal/reflectlite.Value).Elem", "(internal/reflectlite.Value).Set"], unfollowed := true, recurses := true, named := ["errors.errorType"], apart := false, laid := [("errors.errorType", laid_errors_errorType)], narrowed := true }
def MetalogPutsUptoSaid : Prop := metalogPutsUptoRow.holds Tryz.pinned (OpenSpec.upto metalogPutsSpec)

/-- 'rovinglaw19.MetalogBack', WHERE WHAT IT READS IS OF BULK AT MOST 1048576: true; the input reads as it did. -/
def metalogBackUptoRow : OpenClaim := { program := "ytbpkckahonmpkaagreatdoor", sum := "bdb7f478e08feb8e57d3bc3329c4e80e01e8af7cd573cc8a08b2c2be43d04662", func := "roving/rovinglaw19.MetalogBack", spec := "metalogBack", inPlace := ["internal/reflectlite.TypeOf", "internal/reflectlite.ValueOf", "(internal/reflectlite.Value).Type", "(internal/reflectlite.Value).IsNil", "(internal/reflectlite.Value).Elem", "(internal/reflectlite.Value).Set"], unfollowed := true, recurses := true, named := ["errors.errorType"], apart := false, laid := [("errors.errorType", laid_errors_errorType)], narrowed := true }
def MetalogBackUptoSaid : Prop := metalogBackUptoRow.holds Tryz.pinned (OpenSpec.upto metalogBackSpec)

/-- 'rovinglaw19.MetalogFrames', WHERE WHAT IT READS IS OF BULK AT MOST 1048576: true; the input reads as it did. -/
def metalogFramesUptoRow : OpenClaim := { program := "ytbpkckahonmpkaagreatdoor", sum := "bdb7f478e08feb8e57d3bc3329c4e80e01e8af7cd573cc8a08b2c2be43d04662", func := "roving/rovinglaw19.MetalogFrames", spec := "metalogFrames", inPlace := ["internal/reflectlite.TypeOf", "internal/reflectlite.ValueOf", "(internal/reflectlite.Value).Type", "(internal/reflectlite.Value).IsNil", "(internal/reflectlite.Value).Elem", "(internal/reflectlite.Value).Set"], unfollowed := true, recurses := true, named := ["errors.errorType"], apart := false, laid := [("errors.errorType", laid_errors_errorType)], narrowed := true }
def MetalogFramesUptoSaid : Prop := metalogFramesUptoRow.holds Tryz.pinned (OpenSpec.upto metalogFramesSpec)

/-- 'rovinglaw19.MetalogReads', WHERE WHAT IT READS IS OF BULK AT MOST 1048576: true; the input reads as it did. -/
def metalogReadsUptoRow : OpenClaim := { program := "ytbpkckahonmpkaagreatdoor", sum := "bdb7f478e08feb8e57d3bc3329c4e80e01e8af7cd573cc8a08b2c2be43d04662", func := "roving/rovinglaw19.MetalogReads", spec := "metalogReads", inPlace := ["internal/reflectlite.TypeOf", "internal/reflectlite.ValueOf", "(internal/reflectlite.Value).Type", "(internal/reflectlite.Value).IsNil", "(internal/reflectlite.Value).Elem", "(internal/reflectlite.Value).Set"], unfollowed := true, recurses := true, named := ["errors.errorType"], apart := false, laid := [("errors.errorType", laid_errors_errorType)], narrowed := true }
def MetalogReadsUptoSaid : Prop := metalogReadsUptoRow.holds Tryz.pinned (OpenSpec.upto metalogReadsSpec)

end Rows
end Go.Proofs.YtbpkckahonmpkaaGreatDoor
