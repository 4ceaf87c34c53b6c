/-
  NARROWER THAN 'FOR EVERY INPUT', by the rows' own cells (each row's printed sentence says how): FieldsRead: laid · RecordOnce: laid · RecordTells: laid · FieldsWrite: laid · FieldsBack: laid · RecordReads: laid · RecordBack: laid · RequestStray: laid · RequestFirst: laid · RequestByte: laid.
  DERIVED. THE GIVEN ROWS OF THIS SEAT. 10 by the template 'for every input the law returns true; each argument reads behind the call as it read before'; 0 by the template 'total and deterministic' (their statements: YtcockikekgmfkaaDoorTotals.lean).
  GIVEN WITH THE SEED: the statements are not yours to turn. If you find one false, say at which input.
  Laid BY PROGRAM, IN A SANDBOX (cutbox-rows.mjs): the forced cells as the released guide's own fill.sh prints them over the translation 4ee340153a7e2741… (all of the seat's roots in one cut). By AI agents, Wed Nov 11 2026. No macro, syntax, notation, axiom, sorry.
-/
import Derived.Test.YtcockikekgmfkaaDoorChecked
import GoSem.Claim
import GoSem.ClaimJoined
import GoSem.ClaimMapViews
import Derived.JoinedTies
import Derived.KernelRfl
namespace Go.Proofs.YtcockikekgmfkaaDoor
/- THE CELL 'sum', in the pinned program and in every row, IS THE sha256 OF THE DUMP (.gsa) THAT YtcockikekgmfkaaDoorProg.lean LOADS. Nothing in Lean hashes anything: it is a label: what it is worth is what the hold of that sum in a sandbox is worth. -/
noncomputable def Tryd.pinned : Pinned := { name := "ytcockikekgmfkaadoor", sum := "4ee340153a7e2741330061750b8ba9e07e3787ed2cbefa29f63ba0b6e51bdc3a", checked := Tryd.checked }
namespace Rows
def none {H : Type} : Left H := { results := [], args := [] }

/- WHAT THE LISTED PACKAGE-LEVEL VARIABLES READ AS WHEN THE CALL BEGINS. Each datum BY PROGRAM (the guide's laid-datum.mjs) off the statement by which the dump's own 'gosem.cut.vars' lays the variable. In a bare row this is a premise. The card (YtcockikekgmfkaaDoorCards.lean) ties it to the program's text. -/
def laid_errors_errorType {H : Type} : DataW H := .iface "internal/reflectlite.rtype" (.agg [.ptr (.lit (.string [101, 114, 114, 111, 114]))])

/-- 'rovinglaw02.FieldsRead': WHATEVER THE INPUT: true; the input reads as it did. -/
def fieldsReadSpec : ChangeSpec := { name := "fieldsRead", fn := fun _ => fun
  | [d1, d2] => { results := [.lit (.bool true)], args := [d1, d2] }
  | _ => none }
def fieldsReadRow : OpenClaim := { program := "ytcockikekgmfkaadoor", sum := "4ee340153a7e2741330061750b8ba9e07e3787ed2cbefa29f63ba0b6e51bdc3a", func := "roving/rovinglaw02.FieldsRead", spec := "fieldsRead", inPlace := ["internal/reflectlite.ValueOf", "(internal/reflectlite.Value).Type", "(internal/reflectlite.Value).IsNil", "internal/reflectlite.TypeOf", "(internal/reflectlite.Value).Elem", "(internal/reflectlite.Value).Set"], unfollowed := true, recurses := true, named := ["errors.errorType"], apart := false, laid := [("errors.errorType", laid_errors_errorType)] }
def FieldsReadSaid : Prop := fieldsReadRow.holds Tryd.pinned (OpenSpec.ofChange fieldsReadSpec)

/-- ITS FALSE NEIGHBOUR: 'it returns false'. Refute it at one input. -/
def fieldsReadWrong : ChangeSpec := { name := "fieldsRead", fn := fun _ => fun
  | [d1, d2] => { results := [.lit (.bool false)], args := [d1, d2] }
  | _ => none }
def FieldsReadWrongFalsely : Prop := fieldsReadRow.holds Tryd.pinned (OpenSpec.ofChange fieldsReadWrong)

/-- 'rovinglaw06.RecordOnce': WHATEVER THE INPUT: true; the input reads as it did. -/
def recordOnceSpec : ChangeSpec := { name := "recordOnce", fn := fun _ => fun
  | [d1, d2] => { results := [.lit (.bool true)], args := [d1, d2] }
  | _ => none }
def recordOnceRow : OpenClaim := { program := "ytcockikekgmfkaadoor", sum := "4ee340153a7e2741330061750b8ba9e07e3787ed2cbefa29f63ba0b6e51bdc3a", func := "roving/rovinglaw06.RecordOnce", spec := "recordOnce", inPlace := ["internal/reflectlite.ValueOf", "(internal/reflectlite.Value).Type", "(internal/reflectlite.Value).IsNil", "internal/reflectlite.TypeOf", "(internal/reflectlite.Value).Elem", "(internal/reflectlite.Value).Set"], unfollowed := true, recurses := true, named := ["errors.errorType"], apart := false, laid := [("errors.errorType", laid_errors_errorType)] }
def RecordOnceSaid : Prop := recordOnceRow.holds Tryd.pinned (OpenSpec.ofChange recordOnceSpec)

/-- ITS FALSE NEIGHBOUR: 'it returns false'. Refute it at one input. -/
def recordOnceWrong : ChangeSpec := { name := "recordOnce", fn := fun _ => fun
  | [d1, d2] => { results := [.lit (.bool false)], args := [d1, d2] }
  | _ => none }
def RecordOnceWrongFalsely : Prop := recordOnceRow.holds Tryd.pinned (OpenSpec.ofChange recordOnceWrong)

/-- 'rovinglaw06.RecordTells': WHATEVER THE INPUT: true; the input reads as it did. -/
def recordTellsSpec : ChangeSpec := { name := "recordTells", fn := fun _ => fun
  | [d1, d2, d3] => { results := [.lit (.bool true)], args := [d1, d2, d3] }
  | _ => none }
def recordTellsRow : OpenClaim := { program := "ytcockikekgmfkaadoor", sum := "4ee340153a7e2741330061750b8ba9e07e3787ed2cbefa29f63ba0b6e51bdc3a", func := "roving/rovinglaw06.RecordTells", spec := "recordTells", inPlace := ["internal/reflectlite.ValueOf", "(internal/reflectlite.Value).Type", "(internal/reflectlite.Value).IsNil", "internal/reflectlite.TypeOf", "(internal/reflectlite.Value).Elem", "(internal/reflectlite.Value).Set"], unfollowed := true, recurses := true, named := ["errors.errorType"], apart := false, laid := [("errors.errorType", laid_errors_errorType)] }
def RecordTellsSaid : Prop := recordTellsRow.holds Tryd.pinned (OpenSpec.ofChange recordTellsSpec)

/-- ITS FALSE NEIGHBOUR: 'it returns false'. Refute it at one input. -/
def recordTellsWrong : ChangeSpec := { name := "recordTells", fn := fun _ => fun
  | [d1, d2, d3] => { results := [.lit (.bool false)], args := [d1, d2, d3] }
  | _ => none }
def RecordTellsWrongFalsely : Prop := recordTellsRow.holds Tryd.pinned (OpenSpec.ofChange recordTellsWrong)

/-- 'rovinglaw02.FieldsWrite': WHATEVER THE INPUT: true; the input reads as it did. -/
def fieldsWriteSpec : ChangeSpec := { name := "fieldsWrite", fn := fun _ => fun
  | [d1, d2, d3, d4] => { results := [.lit (.bool true)], args := [d1, d2, d3, d4] }
  | _ => none }
def fieldsWriteRow : OpenClaim := { program := "ytcockikekgmfkaadoor", sum := "4ee340153a7e2741330061750b8ba9e07e3787ed2cbefa29f63ba0b6e51bdc3a", func := "roving/rovinglaw02.FieldsWrite", spec := "fieldsWrite", inPlace := ["internal/reflectlite.ValueOf", "(internal/reflectlite.Value).Type", "(internal/reflectlite.Value).IsNil", "internal/reflectlite.TypeOf", "(internal/reflectlite.Value).Elem", "(internal/reflectlite.Value).Set"], unfollowed := true, recurses := true, named := ["errors.errorType"], apart := false, laid := [("errors.errorType", laid_errors_errorType)] }
def FieldsWriteSaid : Prop := fieldsWriteRow.holds Tryd.pinned (OpenSpec.ofChange fieldsWriteSpec)

/-- ITS FALSE NEIGHBOUR: 'it returns false'. Refute it at one input. -/
def fieldsWriteWrong : ChangeSpec := { name := "fieldsWrite", fn := fun _ => fun
  | [d1, d2, d3, d4] => { results := [.lit (.bool false)], args := [d1, d2, d3, d4] }
  | _ => none }
def FieldsWriteWrongFalsely : Prop := fieldsWriteRow.holds Tryd.pinned (OpenSpec.ofChange fieldsWriteWrong)

/-- 'rovinglaw02.FieldsBack': WHATEVER THE INPUT: true; the input reads as it did. -/
def fieldsBackSpec : ChangeSpec := { name := "fieldsBack", fn := fun _ => fun
  | [d1, d2] => { results := [.lit (.bool true)], args := [d1, d2] }
  | _ => none }
def fieldsBackRow : OpenClaim := { program := "ytcockikekgmfkaadoor", sum := "4ee340153a7e2741330061750b8ba9e07e3787ed2cbefa29f63ba0b6e51bdc3a", func := "roving/rovinglaw02.FieldsBack", spec := "fieldsBack", inPlace := ["internal/reflectlite.ValueOf", "(internal/reflectlite.Value).Type", "(internal/reflectlite.Value).IsNil", "internal/reflectlite.TypeOf", "(internal/reflectlite.Value).Elem", "(internal/reflectlite.Value).Set"], unfollowed := true, recurses := true, named := ["errors.errorType"], apart := false, laid := [("errors.errorType", laid_errors_errorType)] }
def FieldsBackSaid : Prop := fieldsBackRow.holds Tryd.pinned (OpenSpec.ofChange fieldsBackSpec)

/-- ITS FALSE NEIGHBOUR: 'it returns false'. Refute it at one input. -/
def fieldsBackWrong : ChangeSpec := { name := "fieldsBack", fn := fun _ => fun
  | [d1, d2] => { results := [.lit (.bool false)], args := [d1, d2] }
  | _ => none }
def FieldsBackWrongFalsely : Prop := fieldsBackRow.holds Tryd.pinned (OpenSpec.ofChange fieldsBackWrong)

/-- 'rovinglaw06.RecordReads': WHATEVER THE INPUT: true; the input reads as it did. -/
def recordReadsSpec : ChangeSpec := { name := "recordReads", fn := fun _ => fun
  | [d1, d2] => { results := [.lit (.bool true)], args := [d1, d2] }
  | _ => none }
def recordReadsRow : OpenClaim := { program := "ytcockikekgmfkaadoor", sum := "4ee340153a7e2741330061750b8ba9e07e3787ed2cbefa29f63ba0b6e51bdc3a", func := "roving/rovinglaw06.RecordReads", spec := "recordReads", inPlace := ["internal/reflectlite.ValueOf", "(internal/reflectlite.Value).Type", "(internal/reflectlite.Value).IsNil", "internal/reflectlite.TypeOf", "(internal/reflectlite.Value).Elem", "(internal/reflectlite.Value).Set"], unfollowed := true, recurses := true, named := ["errors.errorType"], apart := false, laid := [("errors.errorType", laid_errors_errorType)] }
def RecordReadsSaid : Prop := recordReadsRow.holds Tryd.pinned (OpenSpec.ofChange recordReadsSpec)

/-- ITS FALSE NEIGHBOUR: 'it returns false'. Refute it at one input. -/
def recordReadsWrong : ChangeSpec := { name := "recordReads", fn := fun _ => fun
  | [d1, d2] => { results := [.lit (.bool false)], args := [d1, d2] }
  | _ => none }
def RecordReadsWrongFalsely : Prop := recordReadsRow.holds Tryd.pinned (OpenSpec.ofChange recordReadsWrong)

/-- 'rovinglaw06.RecordBack': WHATEVER THE INPUT: true; the input reads as it did. -/
def recordBackSpec : ChangeSpec := { name := "recordBack", fn := fun _ => fun
  | [d1, d2, d3, d4] => { results := [.lit (.bool true)], args := [d1, d2, d3, d4] }
  | _ => none }
def recordBackRow : OpenClaim := { program := "ytcockikekgmfkaadoor", sum := "4ee340153a7e2741330061750b8ba9e07e3787ed2cbefa29f63ba0b6e51bdc3a", func := "roving/rovinglaw06.RecordBack", spec := "recordBack", inPlace := ["internal/reflectlite.ValueOf", "(internal/reflectlite.Value).Type", "(internal/reflectlite.Value).IsNil", "internal/reflectlite.TypeOf", "(internal/reflectlite.Value).Elem", "(internal/reflectlite.Value).Set"], unfollowed := true, recurses := true, named := ["errors.errorType"], apart := false, laid := [("errors.errorType", laid_errors_errorType)] }
def RecordBackSaid : Prop := recordBackRow.holds Tryd.pinned (OpenSpec.ofChange recordBackSpec)

/-- ITS FALSE NEIGHBOUR: 'it returns false'. Refute it at one input. -/
def recordBackWrong : ChangeSpec := { name := "recordBack", fn := fun _ => fun
  | [d1, d2, d3, d4] => { results := [.lit (.bool false)], args := [d1, d2, d3, d4] }
  | _ => none }
def RecordBackWrongFalsely : Prop := recordBackRow.holds Tryd.pinned (OpenSpec.ofChange recordBackWrong)

/-- 'rovinglaw08.RequestStray': WHATEVER THE INPUT: true; the input reads as it did. -/
def requestStraySpec : ChangeSpec := { name := "requestStray", fn := fun _ => fun
  | [d1, d2, d3] => { results := [.lit (.bool true)], args := [d1, d2, d3] }
  | _ => none }
def requestStrayRow : OpenClaim := { program := "ytcockikekgmfkaadoor", sum := "4ee340153a7e2741330061750b8ba9e07e3787ed2cbefa29f63ba0b6e51bdc3a", func := "roving/rovinglaw08.RequestStray", spec := "requestStray", inPlace := ["internal/reflectlite.ValueOf", "(internal/reflectlite.Value).Type", "(internal/reflectlite.Value).IsNil", "internal/reflectlite.TypeOf", "(internal/reflectlite.Value).Elem", "(internal/reflectlite.Value).Set"], unfollowed := true, recurses := true, named := ["errors.errorType"], apart := false, laid := [("errors.errorType", laid_errors_errorType)] }
def RequestStraySaid : Prop := requestStrayRow.holds Tryd.pinned (OpenSpec.ofChange requestStraySpec)

/-- ITS FALSE NEIGHBOUR: 'it returns false'. Refute it at one input. -/
def requestStrayWrong : ChangeSpec := { name := "requestStray", fn := fun _ => fun
  | [d1, d2, d3] => { results := [.lit (.bool false)], args := [d1, d2, d3] }
  | _ => none }
def RequestStrayWrongFalsely : Prop := requestStrayRow.holds Tryd.pinned (OpenSpec.ofChange requestStrayWrong)

/-- 'rovinglaw08.RequestFirst': WHATEVER THE INPUT: true; the input reads as it did. -/
def requestFirstSpec : ChangeSpec := { name := "requestFirst", fn := fun _ => fun
  | [d] => { results := [.lit (.bool true)], args := [d] }
  | _ => none }
def requestFirstRow : OpenClaim := { program := "ytcockikekgmfkaadoor", sum := "4ee340153a7e2741330061750b8ba9e07e3787ed2cbefa29f63ba0b6e51bdc3a", func := "roving/rovinglaw08.RequestFirst", spec := "requestFirst", inPlace := ["internal/reflectlite.ValueOf", "(internal/reflectlite.Value).Type", "(internal/reflectlite.Value).IsNil", "internal/reflectlite.TypeOf", "(internal/reflectlite.Value).Elem", "(internal/reflectlite.Value).Set"], unfollowed := true, recurses := true, named := ["errors.errorType"], apart := false, laid := [("errors.errorType", laid_errors_errorType)] }
def RequestFirstSaid : Prop := requestFirstRow.holds Tryd.pinned (OpenSpec.ofChange requestFirstSpec)

/-- ITS FALSE NEIGHBOUR: 'it returns false'. Refute it at one input. -/
def requestFirstWrong : ChangeSpec := { name := "requestFirst", fn := fun _ => fun
  | [d] => { results := [.lit (.bool false)], args := [d] }
  | _ => none }
def RequestFirstWrongFalsely : Prop := requestFirstRow.holds Tryd.pinned (OpenSpec.ofChange requestFirstWrong)

/-- 'rovinglaw08.RequestByte': WHATEVER THE INPUT: true; the input reads as it did. -/
def requestByteSpec : ChangeSpec := { name := "requestByte", fn := fun _ => fun
  | [d1, d2, d3] => { results := [.lit (.bool true)], args := [d1, d2, d3] }
  | _ => none }
def requestByteRow : OpenClaim := { program := "ytcockikekgmfkaadoor", sum := "4ee340153a7e2741330061750b8ba9e07e3787ed2cbefa29f63ba0b6e51bdc3a", func := "roving/rovinglaw08.RequestByte", spec := "requestByte", inPlace := ["internal/reflectlite.ValueOf", "(internal/reflectlite.Value).Type", "(internal/reflectlite.Value).IsNil", "internal/reflectlite.TypeOf", "(internal/reflectlite.Value).Elem", "(internal/reflectlite.Value).Set"], unfollowed := true, recurses := true, named := ["errors.errorType"], apart := false, laid := [("errors.errorType", laid_errors_errorType)] }
def RequestByteSaid : Prop := requestByteRow.holds Tryd.pinned (OpenSpec.ofChange requestByteSpec)

/-- ITS FALSE NEIGHBOUR: 'it returns false'. Refute it at one input. -/
def requestByteWrong : ChangeSpec := { name := "requestByte", fn := fun _ => fun
  | [d1, d2, d3] => { results := [.lit (.bool false)], args := [d1, d2, d3] }
  | _ => none }
def RequestByteWrongFalsely : Prop := requestByteRow.holds Tryd.pinned (OpenSpec.ofChange requestByteWrong)

/- THE SECOND FORM. 'bulk': how many values and letters a reading holds, each counted each time it is reached (what is shared counts as often as it is met; a slice's spare places count too). A statement '..UptoSaid' is the law's where the arguments, and the package variables that the reading takes, are together of bulk at most 1048576: NARROWER than '..Said'. Prove '..Said' where nothing that the law and all that it calls make is longer than what came in: it says more and counts as full. Else prove '..UptoSaid'. A law counts once. -/
mutual
def uptoBulk {H : Type} : DataW H → Nat
  | .lit (.string bytes) => bytes.length + 1
  | .lit _ => 1
  | .nil => 1
  | .ptr d => uptoBulk d + 1
  | .slice elems spare => uptoBulkAll elems + uptoBulkAll spare + 1
  | .agg parts => uptoBulkAll parts + 1
  | .iface _ d => uptoBulk d + 1
  | .map entries => uptoBulkEntries entries + 1
  | .held _ => 1
def uptoBulkAll {H : Type} : List (DataW H) → Nat
  | [] => 0
  | d :: r => uptoBulk d + uptoBulkAll r
def uptoBulkEntries {H : Type} : List (Lit × DataW H) → Nat
  | [] => 0
  | x :: r => uptoBulkEntry x + uptoBulkEntries r
def uptoBulkEntry {H : Type} : Lit × DataW H → Nat
  | (.string bytes, d) => bytes.length + uptoBulk d + 1
  | (_, d) => uptoBulk d + 1
 end
def uptoSmall : (H : Type) → List (DataW H) → Bool := fun _ ds => decide (uptoBulkAll ds ≤ 1048576)
def OpenSpec.upto (s : _root_.Go.ChangeSpec) : _root_.Go.OpenSpec := { _root_.Go.OpenSpec.ofChange s with cond := some uptoSmall }

/-- 'rovinglaw02.FieldsRead', WHERE WHAT IT READS IS OF BULK AT MOST 1048576: true; the input reads as it did. -/
def fieldsReadUptoRow : OpenClaim := { program := "ytcockikekgmfkaadoor", sum := "4ee340153a7e2741330061750b8ba9e07e3787ed2cbefa29f63ba0b6e51bdc3a", func := "roving/rovinglaw02.FieldsRead", spec := "fieldsRead", inPlace := ["internal/reflectlite.ValueOf", "(internal/reflectlite.Value).Type", "(internal/reflectlite.Value).IsNil", "internal/reflectlite.TypeOf", "(internal/reflectlite.Value).Elem", "(internal/reflectlite.Value).Set"], unfollowed := true, recurses := true, named := ["errors.errorType"], apart := false, laid := [("errors.errorType", laid_errors_errorType)], narrowed := true }
def FieldsReadUptoSaid : Prop := fieldsReadUptoRow.holds Tryd.pinned (OpenSpec.upto fieldsReadSpec)

/-- 'rovinglaw06.RecordOnce', WHERE WHAT IT READS IS OF BULK AT MOST 1048576: true; the input reads as it did. -/
def recordOnceUptoRow : OpenClaim := { program := "ytcockikekgmfkaadoor", sum := "4ee340153a7e2741330061750b8ba9e07e3787ed2cbefa29f63ba0b6e51bdc3a", func := "roving/rovinglaw06.RecordOnce", spec := "recordOnce", inPlace := ["internal/reflectlite.ValueOf", "(internal/reflectlite.Value).Type", "(internal/reflectlite.Value).IsNil", "internal/reflectlite.TypeOf", "(internal/reflectlite.Value).Elem", "(internal/reflectlite.Value).Set"], unfollowed := true, recurses := true, named := ["errors.errorType"], apart := false, laid := [("errors.errorType", laid_errors_errorType)], narrowed := true }
def RecordOnceUptoSaid : Prop := recordOnceUptoRow.holds Tryd.pinned (OpenSpec.upto recordOnceSpec)

/-- 'rovinglaw06.RecordTells', WHERE WHAT IT READS IS OF BULK AT MOST 1048576: true; the input reads as it did. -/
def recordTellsUptoRow : OpenClaim := { program := "ytcockikekgmfkaadoor", sum := "4ee340153a7e2741330061750b8ba9e07e3787ed2cbefa29f63ba0b6e51bdc3a", func := "roving/rovinglaw06.RecordTells", spec := "recordTells", inPlace := ["internal/reflectlite.ValueOf", "(internal/reflectlite.Value).Type", "(internal/reflectlite.Value).IsNil", "internal/reflectlite.TypeOf", "(internal/reflectlite.Value).Elem", "(internal/reflectlite.Value).Set"], unfollowed := true, recurses := true, named := ["errors.errorType"], apart := false, laid := [("errors.errorType", laid_errors_errorType)], narrowed := true }
def RecordTellsUptoSaid : Prop := recordTellsUptoRow.holds Tryd.pinned (OpenSpec.upto recordTellsSpec)

/-- 'rovinglaw02.FieldsWrite', WHERE WHAT IT READS IS OF BULK AT MOST 1048576: true; the input reads as it did. -/
def fieldsWriteUptoRow : OpenClaim := { program := "ytcockikekgmfkaadoor", sum := "4ee340153a7e2741330061750b8ba9e07e3787ed2cbefa29f63ba0b6e51bdc3a", func := "roving/rovinglaw02.FieldsWrite", spec := "fieldsWrite", inPlace := ["internal/reflectlite.ValueOf", "(internal/reflectlite.Value).Type", "(internal/reflectlite.Value).IsNil", "internal/reflectlite.TypeOf", "(internal/reflectlite.Value).Elem", "(internal/reflectlite.Value).Set"], unfollowed := true, recurses := true, named := ["errors.errorType"], apart := false, laid := [("errors.errorType", laid_errors_errorType)], narrowed := true }
def FieldsWriteUptoSaid : Prop := fieldsWriteUptoRow.holds Tryd.pinned (OpenSpec.upto fieldsWriteSpec)

/-- 'rovinglaw02.FieldsBack', WHERE WHAT IT READS IS OF BULK AT MOST 1048576: true; the input reads as it did. -/
def fieldsBackUptoRow : OpenClaim := { program := "ytcockikekgmfkaadoor", sum := "4ee340153a7e2741330061750b8ba9e07e3787ed2cbefa29f63ba0b6e51bdc3a", func := "roving/rovinglaw02.FieldsBack", spec := "fieldsBack", inPlace := ["internal/reflectlite.ValueOf", "(internal/reflectlite.Value).Type", "(internal/reflectlite.Value).IsNil", "internal/reflectlite.TypeOf", "(internal/reflectlite.Value).Elem", "(internal/reflectlite.Value).Set"], unfollowed := true, recurses := true, named := ["errors.errorType"], apart := false, laid := [("errors.errorType", laid_errors_errorType)], narrowed := true }
def FieldsBackUptoSaid : Prop := fieldsBackUptoRow.holds Tryd.pinned (OpenSpec.upto fieldsBackSpec)

/-- 'rovinglaw06.RecordReads', WHERE WHAT IT READS IS OF BULK AT MOST 1048576: true; the input reads as it did. -/
def recordReadsUptoRow : OpenClaim := { program := "ytcockikekgmfkaadoor", sum := "4ee340153a7e2741330061750b8ba9e07e3787ed2cbefa29f63ba0b6e51bdc3a", func := "roving/rovinglaw06.RecordReads", spec := "recordReads", inPlace := ["internal/reflectlite.ValueOf", "(internal/reflectlite.Value).Type", "(internal/reflectlite.Value).IsNil", "internal/reflectlite.TypeOf", "(internal/reflectlite.Value).Elem", "(internal/reflectlite.Value).Set"], unfollowed := true, recurses := true, named := ["errors.errorType"], apart := false, laid := [("errors.errorType", laid_errors_errorType)], narrowed := true }
def RecordReadsUptoSaid : Prop := recordReadsUptoRow.holds Tryd.pinned (OpenSpec.upto recordReadsSpec)

/-- 'rovinglaw06.RecordBack', WHERE WHAT IT READS IS OF BULK AT MOST 1048576: true; the input reads as it did. -/
def recordBackUptoRow : OpenClaim := { program := "ytcockikekgmfkaadoor", sum := "4ee340153a7e2741330061750b8ba9e07e3787ed2cbefa29f63ba0b6e51bdc3a", func := "roving/rovinglaw06.RecordBack", spec := "recordBack", inPlace := ["internal/reflectlite.ValueOf", "(internal/reflectlite.Value).Type", "(internal/reflectlite.Value).IsNil", "internal/reflectlite.TypeOf", "(internal/reflectlite.Value).Elem", "(internal/reflectlite.Value).Set"], unfollowed := true, recurses := true, named := ["errors.errorType"], apart := false, laid := [("errors.errorType", laid_errors_errorType)], narrowed := true }
def RecordBackUptoSaid : Prop := recordBackUptoRow.holds Tryd.pinned (OpenSpec.upto recordBackSpec)

/-- 'rovinglaw08.RequestStray', WHERE WHAT IT READS IS OF BULK AT MOST 1048576: true; the input reads as it did. -/
def requestStrayUptoRow : OpenClaim := { program := "ytcockikekgmfkaadoor", sum := "4ee340153a7e2741330061750b8ba9e07e3787ed2cbefa29f63ba0b6e51bdc3a", func := "roving/rovinglaw08.RequestStray", spec := "requestStray", inPlace := ["internal/reflectlite.ValueOf", "(internal/reflectlite.Value).Type", "(internal/reflectlite.Value).IsNil", "internal/reflectlite.TypeOf", "(internal/reflectlite.Value).Elem", "(internal/reflectlite.Value).Set"], unfollowed := true, recurses := true, named := ["errors.errorType"], apart := false, laid := [("errors.errorType", laid_errors_errorType)], narrowed := true }
def RequestStrayUptoSaid : Prop := requestStrayUptoRow.holds Tryd.pinned (OpenSpec.upto requestStraySpec)

/-- 'rovinglaw08.RequestFirst', WHERE WHAT IT READS IS OF BULK AT MOST 1048576: true; the input reads as it did. -/
def requestFirstUptoRow : OpenClaim := { program := "ytcockikekgmfkaadoor", sum := "4ee340153a7e2741330061750b8ba9e07e3787ed2cbefa29f63ba0b6e51bdc3a", func := "roving/rovinglaw08.RequestFirst", spec := "requestFirst", inPlace := ["internal/reflectlite.ValueOf", "(internal/reflectlite.Value).Type", "(internal/reflectlite.Value).IsNil", "internal/reflectlite.TypeOf", "(internal/reflectlite.Value).Elem", "(internal/reflectlite.Value).Set"], unfollowed := true, recurses := true, named := ["errors.errorType"], apart := false, laid := [("errors.errorType", laid_errors_errorType)], narrowed := true }
def RequestFirstUptoSaid : Prop := requestFirstUptoRow.holds Tryd.pinned (OpenSpec.upto requestFirstSpec)

/-- 'rovinglaw08.RequestByte', WHERE WHAT IT READS IS OF BULK AT MOST 1048576: true; the input reads as it did. -/
def requestByteUptoRow : OpenClaim := { program := "ytcockikekgmfkaadoor", sum := "4ee340153a7e2741330061750b8ba9e07e3787ed2cbefa29f63ba0b6e51bdc3a", func := "roving/rovinglaw08.RequestByte", spec := "requestByte", inPlace := ["internal/reflectlite.ValueOf", "(internal/reflectlite.Value).Type", "(internal/reflectlite.Value).IsNil", "internal/reflectlite.TypeOf", "(internal/reflectlite.Value).Elem", "(internal/reflectlite.Value).Set"], unfollowed := true, recurses := true, named := ["errors.errorType"], apart := false, laid := [("errors.errorType", laid_errors_errorType)], narrowed := true }
def RequestByteUptoSaid : Prop := requestByteUptoRow.holds Tryd.pinned (OpenSpec.upto requestByteSpec)

end Rows
end Go.Proofs.YtcockikekgmfkaaDoor
