/-
  What the rows' list gives (the library's variable errors.errorType), a world for the witness, and bytes out of an argument.
  The statement StatesTell: its walk.
-/
import Derived.Test.YtagclnmchkgpdaaDoorGrp11
import Derived.Test.YtagclnmchkgpdaaDoorCards
import Derived.Test.YtagclnmchkgpdaaDoorTie
import Derived.Test.YtagclnmchkgpdaaDoorGrp10
import Derived.Test.YtagclnmchkgpdaaDoorGrp02
import Derived.LaidHandle
import Derived.LaidLaws
import Derived.Stop.Joined
import Derived.JoinedOf
import Derived.Deep.DeepHandedRow
import Derived.SevenTiedAt
set_option linter.unusedVariables false
set_option linter.unusedSimpArgs false
namespace Go.Proofs.YtagclnmchkgpdaaDoor
open Go.RowKit

theorem adj_nil {α : Type} (R : α → α → Prop) : adjB R [] = true := adjB_true (Adj.one (by simp))
theorem parts_nil : partsB [] = true := by unfold partsB; rw [adj_nil]; simp
theorem parts_zero : partsB [0] = true := by
  unfold partsB
  rw [adjB_true (Adj.one (by simp))]
  simp [partB]
def coW1 : Co := ⟨5, 2, 4, 1, 0, [], [], 0⟩
def coW2 : Co := ⟨2, 2, 0, 1, 0, [0], [], 0⟩
theorem may_W1 : mayB coW1 = true := by simp [mayB, coW1, idleB, rangeB, parts_nil, adj_nil]
theorem may_W2 : mayB coW2 = true := by simp [mayB, coW2, tailB, rangeB, parts_zero, adj_nil]
theorem init_W1e : initE coW1 2 7 = 0 := by
  unfold initE chkE
  rw [may_W1]
  simp [coW1, beginsB]
theorem init_W1c : initC coW1 2 7 = ⟨1, 2, 5, 7, 0, [], [], 0⟩ := by
  unfold initC
  rw [init_W1e]
  simp [coW1]
theorem init_W2e : initE coW2 2 7 = 180 := by
  unfold initE chkE
  rw [may_W2]
  simp [coW2, beginsB]

set_option maxRecDepth 100000 in
set_option maxHeartbeats 1000000 in
theorem wakes_any (w : World) (hg : HasET w) : Calls Tryd.prog 9 #[] w fun e w' => e = .returned (.bool true) ∧ Below w.heap.size w w' := by
  have h1 := Init_any coW1 none none 0 0 2 7 w ⟨Reads.none_, Reads.none_, by simp [coW1], by simp [coW1]⟩ hg (by simp [coW1])
  rw [init_W1e, init_W1c] at h1
  have H1 := Lib.hid h1
  have HG := Lib.hid hg
  clear h1 hg
  go_enter Tryd.func9, Tryd.ntmps9
  go_wp2_with fail
  refine H1.out.mono ?_
  rintro e w1 ⟨A1, D1, c1, e1, rfl, _, b1, _, _⟩
  have kc := Blk.new w1 26 #[.int .i8 1, .int .i64 2, .int .i64 5, .int .i64 7, .int .i64 0, .slice A1 0 c1, .slice D1 0 e1, .int .i64 0]
  have b2 := bal b1 (.cells #[.int .i8 1, .int .i64 2, .int .i64 5, .int .i64 7, .int .i64 0, .slice A1 0 c1, .slice D1 0 e1, .int .i64 0] 26)
  have hsz : w1.heap.size < (w1.alloc (.cells #[.int .i8 1, .int .i64 2, .int .i64 5, .int .i64 7, .int .i64 0, .slice A1 0 c1, .slice D1 0 e1, .int .i64 0] 26)).heap.size := by simp
  have KC := Lib.hid kc
  have B2 := Lib.hid b2
  clear kc b2
  go_wp2_with fail
  generalize hW : w1.alloc (.cells #[.int .i8 1, .int .i64 2, .int .i64 5, .int .i64 7, .int .i64 0, .slice A1 0 c1, .slice D1 0 e1, .int .i64 0] 26) = W at *
  have hws : w1.heap.size + 1 = W.heap.size := by rw [← hW]; simp
  rw [hws]
  have b3 := bal B2.out (.cells #[.int .i64 0] 3)
  have hrd := reads_newI W 3 [0]
  have hin := Init_any coW2 (some ⟨W.heap.size, 0, none⟩) none 1 0 2 7 (W.alloc (.cells #[.int .i64 0] 3)) ⟨by simpa [cellsI, coW2] using hrd, Reads.none_, by simp [coW2], by simp [coW2]⟩ (HG.out.up b3) (by simp [coW2])
  rw [init_W2e] at hin
  refine (show Calls Tryd.prog 23 #[.agg #[.int .i8 2, .int .i64 2, .int .i64 0, .int .i64 1, .int .i64 0, .slice (some ⟨W.heap.size, 0, none⟩) 1 1, .slice none 0 0, .int .i64 0], .int .i64 2, .int .i64 7] _ _ from hin).mono ?_
  rintro e w3 ⟨A3, D3, c3, e3, rfl, _, b4, _, _⟩
  have bb := btrans b3 b4
  have kc := (KC.out.alloc (.cells #[.int .i64 0] 3)).below b4 (by simp; omega)
  have x0 := kc.cell 0
  have x2 := kc.cell 2
  have x3 := kc.cell 3
  have hz4 := b4.size
  rw [World.size_alloc] at hz4
  have hlt4 : w1.heap.size < w3.heap.size := by omega
  have hne4 : ¬ w1.heap.size = w3.heap.size := by omega
  clear hin hrd hW hws b3 b4 kc
  generalize initC coW2 2 7 = d3
  go_wp2_with fail
  go_ret
  exact ⟨rfl, bal bb _⟩
end Go.Proofs.YtagclnmchkgpdaaDoor
namespace Go.Proofs.YtagclnmchkgpdaaDoor
open Go.ChangeShapes Go.WideShapes Go.ChangeAt Go.RowKit

theorem own : ownKnob Tryd.prog.godebug = none := by kernel_rfl
theorem laidOut : laidOutB Tryd.prog = true := by kernel_rfl
theorem lay_et : Tryd.prog.globalNamed "errors.errorType" = some 0 := by kernel_rfl
theorem lay_rt : (Tryd.prog.cutTypes.find? (·.1 == "internal/reflectlite.rtype")).map (·.2) = some 102 := by kernel_rfl
theorem lay_row : ((List.range 149).filter fun t => Tryd.prog.rowNamed t [101, 114, 114, 111, 114]) = [60] := by kernel_rfl
theorem lay_size : Tryd.prog.types.size = 149 := by kernel_rfl

def theLaid {H : Type} : List (String × DataW H) := [("errors.errorType", Rows.laid_errors_errorType)]

theorem hasErr_of_laid {W : World} (h : laidMetH Tryd.prog theLaid W) : HasET W := by
  have h' : laidMet Tryd.prog [] W ∧ handlesMet Tryd.prog theLaid W := h
  obtain ⟨name, u, ty, e1, e2, e3, e4, e5⟩ := h'.2 _ (List.mem_singleton.2 rfl)
  have en : name = [101, 114, 114, 111, 114] := (Option.some.inj e1).symm
  subst en
  obtain rfl := Option.some.inj (lay_rt.symm.trans e2)
  have hm : ty ∈ (List.range 149).filter fun t => Tryd.prog.rowNamed t [101, 114, 114, 111, 114] := List.mem_filter.2 ⟨List.mem_range.2 (by rw [← lay_size]; exact e3), e4⟩
  rw [lay_row] at hm
  obtain rfl := List.mem_singleton.1 hm
  have hh : typeHandle Tryd.prog 60 = .pointer (some ⟨1, 60, none⟩) := by kernel_rfl
  rw [hh] at e5
  unfold HasET
  simpa using World.var?_cell lay_et e5 0

/-- A world that meets the condition: the settled one, the variable's cell laid. -/
noncomputable def laidWorld (os : Os) : World :=
  { World.holding Tryd.prog os ⟨#[], #[], []⟩ with heap := (World.holding Tryd.prog os ⟨#[], #[], []⟩).heap.modify 0 fun
      | .cells _ t frozen => .cells #[.iface 102 (.agg #[.pointer (some ⟨1, 60, none⟩)])] t frozen
      | o => o }

/-- Bytes out of ints that fit. -/
theorem bytes_of_ints {w : World} {B n : Nat} {A : Option Addr} {zs : List Int} (h : Reads w B 1 A n (cellsI .u8 zs)) (hz : ∀ z ∈ zs, (Lit.int .u8 z).wf = true) :
    ∃ l : List UInt8, n = l.length ∧ Reads w B 1 A n (cellsB l) := by
  have e : cellsI .u8 zs = cellsB (zs.map fun z => UInt8.ofNat z.toNat) := by
    unfold cellsI cellsB
    rw [List.map_map]
    refine List.map_congr_left fun z h' => ?_
    have hw := hz z h'
    have h0 : (0 : Int) ≤ z ∧ z ≤ 255 := by
      simp only [Lit.wf, Bool.and_eq_true, decide_eq_true_eq] at hw
      exact ⟨hw.1, hw.2⟩
    simp only [Function.comp]
    congr 1
    rw [UInt8.toNat_ofNat']
    omega
  refine ⟨_, ?_, e ▸ h⟩
  have := h.1
  rw [length_cellsI] at this
  rw [List.length_map]
  omega
end Go.Proofs.YtagclnmchkgpdaaDoor
