/-
  What the rows' list gives (the library's variable errors.errorType), a world for the witness, and bytes out of an argument.
  Arguments of a statement opened: strings, slices of strings, of bytes, of ints: what they hold, in the words of Reads; and that each is within the form's reach.
-/
import Derived.Test.YtcockikekgmfkaaDoorGrp01
import Derived.ProofKit
import Derived.OpenShut
import Derived.ShutString
import Derived.ChangeOld
import Derived.Below
import Derived.SizedLaws
import Derived.SliceStrings
import Derived.Test.YtcockikekgmfkaaDoorCards
import Derived.Test.YtcockikekgmfkaaDoorTie
import Derived.Test.YtcockikekgmfkaaDoorGrp07
import Derived.LaidHandle
import Derived.LaidLaws
import Derived.Stop.Joined
import Derived.JoinedOf
import Derived.Deep.DeepHandedRow
import Derived.SevenTiedAt
namespace Go.Proofs.YtcockikekgmfkaaDoor
open Go.ChangeShapes Go.WideShapes Go.ChangeAt Go.RowKit

/-- Ints as cells. -/
def cellsI (k : IntKind) (l : List Int) : List Value := l.map (Value.int k)
theorem length_cellsI (k : IntKind) (l : List Int) : (cellsI k l).length = l.length := by simp [cellsI]
theorem getElem?_cellsI (k : IntKind) (l : List Int) (j : Nat) : (cellsI k l)[j]? = (l[j]?).map (Value.int k) := by simp [cellsI]

section
variable {H : Type} {enc : TypeId × Value → H} {P : Program} {W : World} {base : Nat}

theorem block_lt_of_cell {w : World} {a : Addr} {v : Value} (h : w.cell? a = some v) : a.block < w.heap.size := by
  rcases Nat.lt_or_ge a.block w.heap.size with hlt | hge
  · exact hlt
  · unfold World.cell? at h
    rw [Array.getElem?_eq_none hge] at h
    simp at h

theorem open_strs_arg {t e : TypeId} {v : Value} {d : DataW H} {p : List MemPlace} {r : Reach} (ht : P.underlying t = some (.slice e)) (he : P.underlying e = some .string) (hC : P.cellsOf e = 1) (hby : P.bytesOf e = 16)
    (hv : Value.okWide P W r base t v) (h : DataW.Trod enc P W 0 (fun _ => true) true t v d p) (hw : ∀ n ∈ d.weights P t, n ≤ reachBytes) :
    ∃ (A : Option Addr) (n c : Nat) (ss : List ByteArray), v = .slice A n c ∧ n ≤ c ∧ c * 16 ≤ 140737488351232 ∧ Reads W W.heap.size 1 A n (cellsS ss) ∧ ∀ s ∈ ss, s.size ≤ 140737488351232 := by
  obtain ⟨a0, len, cap, rfl⟩ := okWide_slice ht hv
  obtain ⟨fuel, hf⟩ := h
  rcases open_strings ht he hC hf with ⟨hcs, _⟩ | ⟨a, l, c, ss, hcs, _, hl, hm, hz, hx, hcell, hsz⟩
  · simp [Value.cells] at hcs
    obtain ⟨rfl, rfl, rfl⟩ := hcs
    exact ⟨none, 0, 0, [], rfl, Nat.le_refl _, by omega, Reads.none_, by simp⟩
  · simp [Value.cells] at hcs
    obtain ⟨rfl, rfl, rfl⟩ := hcs
    simp only [if_true] at hz
    simp only [Prod.mk.injEq] at hx
    obtain ⟨rfl, _⟩ := hx
    simp only [DataW.weights, ht, hby] at hw
    refine ⟨some a, len, cap, ss.take len, rfl, hl, ?_, ⟨by rw [length_cellsS, List.length_take]; omega, fun hn => ⟨a, rfl, ?_, fun j u hu => ?_⟩⟩, fun s hs => ?_⟩
    · have := hw _ (List.mem_cons_self ..)
      simp only [strs, List.length_map, List.length_take, List.length_drop, reachBytes] at this
      omega
    · have := block_lt_of_cell (hcell 0 (by omega))
      rwa [block_of_add] at this
    · rw [getElem?_cellsS, Option.map_eq_some_iff] at hu
      obtain ⟨s, hs, rfl⟩ := hu
      have hj : j < len := by
        have := (List.getElem?_eq_some_iff.1 hs).1
        simp at this; omega
      rw [List.getElem?_take_of_lt hj] at hs
      rw [hcell j (by omega)]
      simp [hs]
    · have hmem : s.data.toList.length ∈ DataW.weightsAll P e (strs (H := H) (ss.take len)) := by
        generalize ss.take len = l at hs
        induction l with
        | nil => cases hs
        | cons x xs ih =>
          simp only [strs, List.map_cons, DataW.weightsAll, DataW.weights, List.mem_append, List.mem_singleton]
          rcases List.mem_cons.1 hs with rfl | h'
          · exact .inl rfl
          · exact .inr (ih h')
      have := hw _ (List.mem_cons_of_mem _ (List.mem_append_left _ hmem))
      exact this

theorem open_ints_arg {t e : TypeId} {k : IntKind} {v : Value} {d : DataW H} {p : List MemPlace} {r : Reach} (bytes : Nat) (ht : P.underlying t = some (.slice e)) (he : P.underlying e = some (.int k)) (hC : P.cellsOf e = 1) (hby : P.bytesOf e = bytes)
    (hv : Value.okWide P W r base t v) (h : DataW.Trod enc P W 0 (fun _ => true) true t v d p) (hw : ∀ n ∈ d.weights P t, n ≤ reachBytes) :
    ∃ (A : Option Addr) (n c : Nat) (zs : List Int), v = .slice A n c ∧ n ≤ c ∧ c * bytes ≤ 140737488351232 ∧ Reads W W.heap.size 1 A n (cellsI k zs) ∧ ∀ z ∈ zs, (Lit.int k z).wf = true := by
  obtain ⟨a0, len, cap, rfl⟩ := okWide_slice ht hv
  obtain ⟨fuel, hf⟩ := h
  rcases open_ints ht he hC hf with ⟨hcs, _⟩ | ⟨a, l, c, zs, hcs, _, hl, hm, hz, hx, hcell, hwz⟩
  · simp [Value.cells] at hcs
    obtain ⟨rfl, rfl, rfl⟩ := hcs
    exact ⟨none, 0, 0, [], rfl, Nat.le_refl _, by omega, Reads.none_, by simp⟩
  · simp [Value.cells] at hcs
    obtain ⟨rfl, rfl, rfl⟩ := hcs
    simp only [if_true] at hz
    simp only [Prod.mk.injEq] at hx
    obtain ⟨rfl, _⟩ := hx
    simp only [DataW.weights, ht, hby] at hw
    refine ⟨some a, len, cap, zs.take len, rfl, hl, ?_, ⟨by rw [length_cellsI, List.length_take]; omega, fun hn => ⟨a, rfl, ?_, fun j u hu => ?_⟩⟩, fun z hs => hwz z (List.mem_of_mem_take hs)⟩
    · have := hw _ (List.mem_cons_self ..)
      simp only [lits, List.length_map, List.length_take, List.length_drop, reachBytes] at this
      have e1 : min len zs.length + (zs.length - len) = cap := by omega
      rw [e1] at this
      exact this
    · have := block_lt_of_cell (hcell 0 (by omega))
      rwa [block_of_add] at this
    · rw [getElem?_cellsI, Option.map_eq_some_iff] at hu
      obtain ⟨s, hs, rfl⟩ := hu
      have hj : j < len := by
        have := (List.getElem?_eq_some_iff.1 hs).1
        simp at this; omega
      rw [List.getElem?_take_of_lt hj] at hs
      rw [hcell j (by omega)]
      simp [hs]

theorem weights_of {ts : List TypeId} {ds : List (DataW H)} (h : (DataW.weightsEach P ts ds).all (· ≤ reachBytes) = true) {j : Nat} {t : TypeId} {d : DataW H} (ht : ts[j]? = some t) (hd : ds[j]? = some d) : ∀ n ∈ d.weights P t, n ≤ reachBytes := by
  intro n hn
  have := List.all_eq_true.1 h _ (DataW.weights_mem_each ht hd n hn)
  simpa using this
end
end Go.Proofs.YtcockikekgmfkaaDoor
namespace Go.Proofs.YtcockikekgmfkaaDoor
open Go.ChangeShapes Go.WideShapes Go.ChangeAt Go.RowKit

theorem own : ownKnob Tryd.prog.godebug = none := by kernel_rfl
theorem laidOut : laidOutB Tryd.prog = true := by kernel_rfl
theorem lay_et : Tryd.prog.globalNamed "errors.errorType" = some 0 := by kernel_rfl
theorem lay_rt : (Tryd.prog.cutTypes.find? (·.1 == "internal/reflectlite.rtype")).map (·.2) = some 136 := by kernel_rfl
theorem lay_row : ((List.range 198).filter fun t => Tryd.prog.rowNamed t [101, 114, 114, 111, 114]) = [87] := by kernel_rfl
theorem lay_size : Tryd.prog.types.size = 198 := by kernel_rfl

def theLaid {H : Type} : List (String × DataW H) := [("errors.errorType", Rows.laid_errors_errorType)]

theorem hasErr_of_laid {W : World} (h : laidMetH Tryd.prog theLaid W) : HasET W := by
  have h' : laidMet Tryd.prog [] W ∧ handlesMet Tryd.prog theLaid W := h
  obtain ⟨name, u, ty, e1, e2, e3, e4, e5⟩ := h'.2 _ (List.mem_singleton.2 rfl)
  have en : name = [101, 114, 114, 111, 114] := (Option.some.inj e1).symm
  subst en
  obtain rfl := Option.some.inj (lay_rt.symm.trans e2)
  have hm : ty ∈ (List.range 198).filter fun t => Tryd.prog.rowNamed t [101, 114, 114, 111, 114] := List.mem_filter.2 ⟨List.mem_range.2 (by rw [← lay_size]; exact e3), e4⟩
  rw [lay_row] at hm
  obtain rfl := List.mem_singleton.1 hm
  have hh : typeHandle Tryd.prog 87 = .pointer (some ⟨1, 87, none⟩) := by kernel_rfl
  rw [hh] at e5
  unfold HasET
  simpa using World.var?_cell lay_et e5 0

/-- A world that meets the condition: the settled one, the variable's cell laid. -/
noncomputable def laidWorld (os : Os) : World :=
  { World.holding Tryd.prog os ⟨#[], #[], []⟩ with heap := (World.holding Tryd.prog os ⟨#[], #[], []⟩).heap.modify 0 fun
      | .cells _ t frozen => .cells #[.iface 136 (.agg #[.pointer (some ⟨1, 87, none⟩)])] t frozen
      | o => o }

/-- Bytes out of ints that fit. -/
theorem bytes_of_ints {w : World} {B n : Nat} {A : Option Addr} {zs : List Int} (h : Reads w B 1 A n (cellsI .u8 zs)) (hz : ∀ z ∈ zs, (Lit.int .u8 z).wf = true) :
    ∃ l : List UInt8, n = l.length ∧ Reads w B 1 A n (cellsB l) := by
  have e : cellsI .u8 zs = cellsB (zs.map fun z => UInt8.ofNat z.toNat) := by
    unfold cellsI cellsB
    rw [List.map_map]
    refine List.map_congr_left fun z h' => ?_
    have hw := hz z h'
    have h0 : (0 : Int) ≤ z ∧ z ≤ 255 := by
      simp only [Lit.wf, Bool.and_eq_true, decide_eq_true_eq] at hw
      exact ⟨hw.1, hw.2⟩
    simp only [Function.comp]
    congr 1
    rw [UInt8.toNat_ofNat']
    omega
  refine ⟨_, ?_, e ▸ h⟩
  have := h.1
  rw [length_cellsI] at this
  rw [List.length_map]
  omega
end Go.Proofs.YtcockikekgmfkaaDoor
