/-
  No cell of these rows narrows 'for every input' (looked for: loops, veiled, ifaces, maps, wideKeys, modest, calm, conditions, laid).
  DERIVED. THE GIVEN ROWS OF THIS SEAT. 5 by the template 'for every input the law returns true; each argument reads behind the call as it read before'; 0 by the template 'total and deterministic' (their statements: YtagclnmchkgpdaaTotals.lean).
  GIVEN WITH THE SEED: the statements are not yours to turn. If you find one false, say at which input.
  Laid BY PROGRAM, IN A SANDBOX (cutbox-rows.mjs): the forced cells as the released guide's own fill.sh prints them over the translation 1bd6290aece6dcb0… (all of the seat's roots in one cut). By AI agents, Wed Nov 11 2026. No macro, syntax, notation, axiom, sorry.
-/
import Derived.Test.YtagclnmchkgpdaaChecked
import GoSem.Claim
import GoSem.ClaimJoined
import GoSem.ClaimMapViews
import Derived.JoinedTies
import Derived.KernelRfl
namespace Go.Proofs.Ytagclnmchkgpdaa
/- THE CELL 'sum', in the pinned program and in every row, IS THE sha256 OF THE DUMP (.gsa) THAT YtagclnmchkgpdaaProg.lean LOADS. Nothing in Lean hashes anything: it is a label: what it is worth is what the hold of that sum in a sandbox is worth. -/
noncomputable def Try.pinned : Pinned := { name := "ytagclnmchkgpdaa", sum := "1bd6290aece6dcb01acfbf71cfd8ebdd26ce0141f230a380a0b16cf682abef2b", checked := Try.checked }
namespace Rows
def none {H : Type} : Left H := { results := [], args := [] }

/-- 'rovinglaw21.ClockTells': WHATEVER THE INPUT: true; the input reads as it did. -/
def clockTellsSpec : ChangeSpec := { name := "clockTells", fn := fun _ => fun
  | [d1, d2] => { results := [.lit (.bool true)], args := [d1, d2] }
  | _ => none }
def clockTellsRow : OpenClaim := { program := "ytagclnmchkgpdaa", sum := "1bd6290aece6dcb01acfbf71cfd8ebdd26ce0141f230a380a0b16cf682abef2b", func := "roving/rovinglaw21.ClockTells", spec := "clockTells", unfollowed := true, recurses := true, apart := false }
def ClockTellsSaid : Prop := clockTellsRow.holds Try.pinned (OpenSpec.ofChange clockTellsSpec)

/-- ITS FALSE NEIGHBOUR: 'it returns false'. Refute it at one input. -/
def clockTellsWrong : ChangeSpec := { name := "clockTells", fn := fun _ => fun
  | [d1, d2] => { results := [.lit (.bool false)], args := [d1, d2] }
  | _ => none }
def ClockTellsWrongFalsely : Prop := clockTellsRow.holds Try.pinned (OpenSpec.ofChange clockTellsWrong)

/-- 'rovinglaw21.ClockDue': WHATEVER THE INPUT: true; the input reads as it did. -/
def clockDueSpec : ChangeSpec := { name := "clockDue", fn := fun _ => fun
  | [d] => { results := [.lit (.bool true)], args := [d] }
  | _ => none }
def clockDueRow : OpenClaim := { program := "ytagclnmchkgpdaa", sum := "1bd6290aece6dcb01acfbf71cfd8ebdd26ce0141f230a380a0b16cf682abef2b", func := "roving/rovinglaw21.ClockDue", spec := "clockDue", unfollowed := true, recurses := true, apart := false }
def ClockDueSaid : Prop := clockDueRow.holds Try.pinned (OpenSpec.ofChange clockDueSpec)

/-- ITS FALSE NEIGHBOUR: 'it returns false'. Refute it at one input. -/
def clockDueWrong : ChangeSpec := { name := "clockDue", fn := fun _ => fun
  | [d] => { results := [.lit (.bool false)], args := [d] }
  | _ => none }
def ClockDueWrongFalsely : Prop := clockDueRow.holds Try.pinned (OpenSpec.ofChange clockDueWrong)

/-- 'rovinglaw21.ClockYoung': WHATEVER THE INPUT: true; the input reads as it did. -/
def clockYoungSpec : ChangeSpec := { name := "clockYoung", fn := fun _ => fun
  | [d] => { results := [.lit (.bool true)], args := [d] }
  | _ => none }
def clockYoungRow : OpenClaim := { program := "ytagclnmchkgpdaa", sum := "1bd6290aece6dcb01acfbf71cfd8ebdd26ce0141f230a380a0b16cf682abef2b", func := "roving/rovinglaw21.ClockYoung", spec := "clockYoung", unfollowed := true, recurses := true, apart := false }
def ClockYoungSaid : Prop := clockYoungRow.holds Try.pinned (OpenSpec.ofChange clockYoungSpec)

/-- ITS FALSE NEIGHBOUR: 'it returns false'. Refute it at one input. -/
def clockYoungWrong : ChangeSpec := { name := "clockYoung", fn := fun _ => fun
  | [d] => { results := [.lit (.bool false)], args := [d] }
  | _ => none }
def ClockYoungWrongFalsely : Prop := clockYoungRow.holds Try.pinned (OpenSpec.ofChange clockYoungWrong)

/-- 'rovinglaw21.ClockOldest': WHATEVER THE INPUT: true; the input reads as it did. -/
def clockOldestSpec : ChangeSpec := { name := "clockOldest", fn := fun _ => fun
  | [d] => { results := [.lit (.bool true)], args := [d] }
  | _ => none }
def clockOldestRow : OpenClaim := { program := "ytagclnmchkgpdaa", sum := "1bd6290aece6dcb01acfbf71cfd8ebdd26ce0141f230a380a0b16cf682abef2b", func := "roving/rovinglaw21.ClockOldest", spec := "clockOldest", unfollowed := true, recurses := true, apart := false }
def ClockOldestSaid : Prop := clockOldestRow.holds Try.pinned (OpenSpec.ofChange clockOldestSpec)

/-- ITS FALSE NEIGHBOUR: 'it returns false'. Refute it at one input. -/
def clockOldestWrong : ChangeSpec := { name := "clockOldest", fn := fun _ => fun
  | [d] => { results := [.lit (.bool false)], args := [d] }
  | _ => none }
def ClockOldestWrongFalsely : Prop := clockOldestRow.holds Try.pinned (OpenSpec.ofChange clockOldestWrong)

/-- 'rovinglaw21.ClockAgain': WHATEVER THE INPUT: true; the input reads as it did. -/
def clockAgainSpec : ChangeSpec := { name := "clockAgain", fn := fun _ => fun
  | [d1, d2] => { results := [.lit (.bool true)], args := [d1, d2] }
  | _ => none }
def clockAgainRow : OpenClaim := { program := "ytagclnmchkgpdaa", sum := "1bd6290aece6dcb01acfbf71cfd8ebdd26ce0141f230a380a0b16cf682abef2b", func := "roving/rovinglaw21.ClockAgain", spec := "clockAgain", unfollowed := true, recurses := true, apart := false }
def ClockAgainSaid : Prop := clockAgainRow.holds Try.pinned (OpenSpec.ofChange clockAgainSpec)

/-- ITS FALSE NEIGHBOUR: 'it returns false'. Refute it at one input. -/
def clockAgainWrong : ChangeSpec := { name := "clockAgain", fn := fun _ => fun
  | [d1, d2] => { results := [.lit (.bool false)], args := [d1, d2] }
  | _ => none }
def ClockAgainWrongFalsely : Prop := clockAgainRow.holds Try.pinned (OpenSpec.ofChange clockAgainWrong)

/- THE SECOND FORM. 'bulk': how many values and letters a reading holds, each counted each time it is reached (what is shared counts as often as it is met; a slice's spare places count too). A statement '..UptoSaid' is the law's where the arguments, and the package variables that the reading takes, are together of bulk at most 1048576: NARROWER than '..Said'. Prove '..Said' where nothing that the law and all that it calls make is longer than what came in: it says more and counts as full. Else prove '..UptoSaid'. A law counts once. -/
mutual
def uptoBulk {H : Type} : DataW H → Nat
  | .lit (.string bytes) => bytes.length + 1
  | .lit _ => 1
  | .nil => 1
  | .ptr d => uptoBulk d + 1
  | .slice elems spare => uptoBulkAll elems + uptoBulkAll spare + 1
  | .agg parts => uptoBulkAll parts + 1
  | .iface _ d => uptoBulk d + 1
  | .map entries => uptoBulkEntries entries + 1
  | .held _ => 1
def uptoBulkAll {H : Type} : List (DataW H) → Nat
  | [] => 0
  | d :: r => uptoBulk d + uptoBulkAll r
def uptoBulkEntries {H : Type} : List (Lit × DataW H) → Nat
  | [] => 0
  | x :: r => uptoBulkEntry x + uptoBulkEntries r
def uptoBulkEntry {H : Type} : Lit × DataW H → Nat
  | (.string bytes, d) => bytes.length + uptoBulk d + 1
  | (_, d) => uptoBulk d + 1
 end
def uptoSmall : (H : Type) → List (DataW H) → Bool := fun _ ds => decide (uptoBulkAll ds ≤ 1048576)
def OpenSpec.upto (s : _root_.Go.ChangeSpec) : _root_.Go.OpenSpec := { _root_.Go.OpenSpec.ofChange s with cond := some uptoSmall }

/-- 'rovinglaw21.ClockTells', WHERE WHAT IT READS IS OF BULK AT MOST 1048576: true; the input reads as it did. -/
def clockTellsUptoRow : OpenClaim := { program := "ytagclnmchkgpdaa", sum := "1bd6290aece6dcb01acfbf71cfd8ebdd26ce0141f230a380a0b16cf682abef2b", func := "roving/rovinglaw21.ClockTells", spec := "clockTells", unfollowed := true, recurses := true, apart := false, narrowed := true }
def ClockTellsUptoSaid : Prop := clockTellsUptoRow.holds Try.pinned (OpenSpec.upto clockTellsSpec)

/-- 'rovinglaw21.ClockDue', WHERE WHAT IT READS IS OF BULK AT MOST 1048576: true; the input reads as it did. -/
def clockDueUptoRow : OpenClaim := { program := "ytagclnmchkgpdaa", sum := "1bd6290aece6dcb01acfbf71cfd8ebdd26ce0141f230a380a0b16cf682abef2b", func := "roving/rovinglaw21.ClockDue", spec := "clockDue", unfollowed := true, recurses := true, apart := false, narrowed := true }
def ClockDueUptoSaid : Prop := clockDueUptoRow.holds Try.pinned (OpenSpec.upto clockDueSpec)

/-- 'rovinglaw21.ClockYoung', WHERE WHAT IT READS IS OF BULK AT MOST 1048576: true; the input reads as it did. -/
def clockYoungUptoRow : OpenClaim := { program := "ytagclnmchkgpdaa", sum := "1bd6290aece6dcb01acfbf71cfd8ebdd26ce0141f230a380a0b16cf682abef2b", func := "roving/rovinglaw21.ClockYoung", spec := "clockYoung", unfollowed := true, recurses := true, apart := false, narrowed := true }
def ClockYoungUptoSaid : Prop := clockYoungUptoRow.holds Try.pinned (OpenSpec.upto clockYoungSpec)

/-- 'rovinglaw21.ClockOldest', WHERE WHAT IT READS IS OF BULK AT MOST 1048576: true; the input reads as it did. -/
def clockOldestUptoRow : OpenClaim := { program := "ytagclnmchkgpdaa", sum := "1bd6290aece6dcb01acfbf71cfd8ebdd26ce0141f230a380a0b16cf682abef2b", func := "roving/rovinglaw21.ClockOldest", spec := "clockOldest", unfollowed := true, recurses := true, apart := false, narrowed := true }
def ClockOldestUptoSaid : Prop := clockOldestUptoRow.holds Try.pinned (OpenSpec.upto clockOldestSpec)

/-- 'rovinglaw21.ClockAgain', WHERE WHAT IT READS IS OF BULK AT MOST 1048576: true; the input reads as it did. -/
def clockAgainUptoRow : OpenClaim := { program := "ytagclnmchkgpdaa", sum := "1bd6290aece6dcb01acfbf71cfd8ebdd26ce0141f230a380a0b16cf682abef2b", func := "roving/rovinglaw21.ClockAgain", spec := "clockAgain", unfollowed := true, recurses := true, apart := false, narrowed := true }
def ClockAgainUptoSaid : Prop := clockAgainUptoRow.holds Try.pinned (OpenSpec.upto clockAgainSpec)

end Rows
end Go.Proofs.Ytagclnmchkgpdaa
