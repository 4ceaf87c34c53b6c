/-
  What the rows' list gives (the library's variable errors.errorType), a world for the witness, and bytes out of an argument.
-/
import Derived.Test.YtcockikekgmfkaaDoorCards
import Derived.Test.YtcockikekgmfkaaDoorTie
import Derived.Test.YtcockikekgmfkaaDoorErD
import Derived.Test.YtcockikekgmfkaaDoorOpen
import Derived.LaidHandle
import Derived.LaidLaws
import Derived.Stop.Joined
import Derived.JoinedOf
import Derived.Deep.DeepHandedRow
import Derived.SevenTiedAt
namespace Go.Proofs.YtcockikekgmfkaaDoor
open Go.ChangeShapes Go.WideShapes Go.ChangeAt Go.RowKit

theorem own : ownKnob Tryd.prog.godebug = none := by kernel_rfl
theorem laidOut : laidOutB Tryd.prog = true := by kernel_rfl
theorem lay_et : Tryd.prog.globalNamed "errors.errorType" = some 0 := by kernel_rfl
theorem lay_rt : (Tryd.prog.cutTypes.find? (·.1 == "internal/reflectlite.rtype")).map (·.2) = some 136 := by kernel_rfl
theorem lay_row : ((List.range 198).filter fun t => Tryd.prog.rowNamed t [101, 114, 114, 111, 114]) = [87] := by kernel_rfl
theorem lay_size : Tryd.prog.types.size = 198 := by kernel_rfl

def theLaid {H : Type} : List (String × DataW H) := [("errors.errorType", Rows.laid_errors_errorType)]

theorem hasErr_of_laid {W : World} (h : laidMetH Tryd.prog theLaid W) : HasET W := by
  have h' : laidMet Tryd.prog [] W ∧ handlesMet Tryd.prog theLaid W := h
  obtain ⟨name, u, ty, e1, e2, e3, e4, e5⟩ := h'.2 _ (List.mem_singleton.2 rfl)
  have en : name = [101, 114, 114, 111, 114] := (Option.some.inj e1).symm
  subst en
  obtain rfl := Option.some.inj (lay_rt.symm.trans e2)
  have hm : ty ∈ (List.range 198).filter fun t => Tryd.prog.rowNamed t [101, 114, 114, 111, 114] := List.mem_filter.2 ⟨List.mem_range.2 (by rw [← lay_size]; exact e3), e4⟩
  rw [lay_row] at hm
  obtain rfl := List.mem_singleton.1 hm
  have hh : typeHandle Tryd.prog 87 = .pointer (some ⟨1, 87, none⟩) := by kernel_rfl
  rw [hh] at e5
  unfold HasET
  simpa using World.var?_cell lay_et e5 0

/-- A world that meets the condition: the settled one, the variable's cell laid. -/
noncomputable def laidWorld (os : Os) : World :=
  { World.holding Tryd.prog os ⟨#[], #[], []⟩ with heap := (World.holding Tryd.prog os ⟨#[], #[], []⟩).heap.modify 0 fun
      | .cells _ t frozen => .cells #[.iface 136 (.agg #[.pointer (some ⟨1, 87, none⟩)])] t frozen
      | o => o }

/-- Bytes out of ints that fit. -/
theorem bytes_of_ints {w : World} {B n : Nat} {A : Option Addr} {zs : List Int} (h : Reads w B 1 A n (cellsI .u8 zs)) (hz : ∀ z ∈ zs, (Lit.int .u8 z).wf = true) :
    ∃ l : List UInt8, n = l.length ∧ Reads w B 1 A n (cellsB l) := by
  have e : cellsI .u8 zs = cellsB (zs.map fun z => UInt8.ofNat z.toNat) := by
    unfold cellsI cellsB
    rw [List.map_map]
    refine List.map_congr_left fun z h' => ?_
    have hw := hz z h'
    have h0 : (0 : Int) ≤ z ∧ z ≤ 255 := by
      simp only [Lit.wf, Bool.and_eq_true, decide_eq_true_eq] at hw
      exact ⟨hw.1, hw.2⟩
    simp only [Function.comp]
    congr 1
    rw [UInt8.toNat_ofNat']
    omega
  refine ⟨_, ?_, e ▸ h⟩
  have := h.1
  rw [length_cellsI] at this
  rw [List.length_map]
  omega
end Go.Proofs.YtcockikekgmfkaaDoor
