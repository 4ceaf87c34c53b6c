/-
  Arguments of a statement opened: strings, slices of strings, of bytes, of ints: what they hold, in the words of Reads; and that each is within the form's reach.
-/
import Derived.Test.YtcockikekgmfkaaDoorWords
import Derived.ProofKit
import Derived.OpenShut
import Derived.ShutString
import Derived.ChangeOld
import Derived.Below
import Derived.SizedLaws
import Derived.SliceStrings
namespace Go.Proofs.YtcockikekgmfkaaDoor
open Go.ChangeShapes Go.WideShapes Go.ChangeAt Go.RowKit

/-- Ints as cells. -/
def cellsI (k : IntKind) (l : List Int) : List Value := l.map (Value.int k)
theorem length_cellsI (k : IntKind) (l : List Int) : (cellsI k l).length = l.length := by simp [cellsI]
theorem getElem?_cellsI (k : IntKind) (l : List Int) (j : Nat) : (cellsI k l)[j]? = (l[j]?).map (Value.int k) := by simp [cellsI]

section
variable {H : Type} {enc : TypeId × Value → H} {P : Program} {W : World} {base : Nat}

theorem block_lt_of_cell {w : World} {a : Addr} {v : Value} (h : w.cell? a = some v) : a.block < w.heap.size := by
  rcases Nat.lt_or_ge a.block w.heap.size with hlt | hge
  · exact hlt
  · unfold World.cell? at h
    rw [Array.getElem?_eq_none hge] at h
    simp at h

theorem open_strs_arg {t e : TypeId} {v : Value} {d : DataW H} {p : List MemPlace} {r : Reach} (ht : P.underlying t = some (.slice e)) (he : P.underlying e = some .string) (hC : P.cellsOf e = 1) (hby : P.bytesOf e = 16)
    (hv : Value.okWide P W r base t v) (h : DataW.Trod enc P W 0 (fun _ => true) true t v d p) (hw : ∀ n ∈ d.weights P t, n ≤ reachBytes) :
    ∃ (A : Option Addr) (n c : Nat) (ss : List ByteArray), v = .slice A n c ∧ n ≤ c ∧ c * 16 ≤ 140737488351232 ∧ Reads W W.heap.size 1 A n (cellsS ss) ∧ ∀ s ∈ ss, s.size ≤ 140737488351232 := by
  obtain ⟨a0, len, cap, rfl⟩ := okWide_slice ht hv
  obtain ⟨fuel, hf⟩ := h
  rcases open_strings ht he hC hf with ⟨hcs, _⟩ | ⟨a, l, c, ss, hcs, _, hl, hm, hz, hx, hcell, hsz⟩
  · simp [Value.cells] at hcs
    obtain ⟨rfl, rfl, rfl⟩ := hcs
    exact ⟨none, 0, 0, [], rfl, Nat.le_refl _, by omega, Reads.none_, by simp⟩
  · simp [Value.cells] at hcs
    obtain ⟨rfl, rfl, rfl⟩ := hcs
    simp only [if_true] at hz
    simp only [Prod.mk.injEq] at hx
    obtain ⟨rfl, _⟩ := hx
    simp only [DataW.weights, ht, hby] at hw
    refine ⟨some a, len, cap, ss.take len, rfl, hl, ?_, ⟨by rw [length_cellsS, List.length_take]; omega, fun hn => ⟨a, rfl, ?_, fun j u hu => ?_⟩⟩, fun s hs => ?_⟩
    · have := hw _ (List.mem_cons_self ..)
      simp only [strs, List.length_map, List.length_take, List.length_drop, reachBytes] at this
      omega
    · have := block_lt_of_cell (hcell 0 (by omega))
      rwa [block_of_add] at this
    · rw [getElem?_cellsS, Option.map_eq_some_iff] at hu
      obtain ⟨s, hs, rfl⟩ := hu
      have hj : j < len := by
        have := (List.getElem?_eq_some_iff.1 hs).1
        simp at this; omega
      rw [List.getElem?_take_of_lt hj] at hs
      rw [hcell j (by omega)]
      simp [hs]
    · have hmem : s.data.toList.length ∈ DataW.weightsAll P e (strs (H := H) (ss.take len)) := by
        generalize ss.take len = l at hs
        induction l with
        | nil => cases hs
        | cons x xs ih =>
          simp only [strs, List.map_cons, DataW.weightsAll, DataW.weights, List.mem_append, List.mem_singleton]
          rcases List.mem_cons.1 hs with rfl | h'
          · exact .inl rfl
          · exact .inr (ih h')
      have := hw _ (List.mem_cons_of_mem _ (List.mem_append_left _ hmem))
      exact this

theorem open_ints_arg {t e : TypeId} {k : IntKind} {v : Value} {d : DataW H} {p : List MemPlace} {r : Reach} (bytes : Nat) (ht : P.underlying t = some (.slice e)) (he : P.underlying e = some (.int k)) (hC : P.cellsOf e = 1) (hby : P.bytesOf e = bytes)
    (hv : Value.okWide P W r base t v) (h : DataW.Trod enc P W 0 (fun _ => true) true t v d p) (hw : ∀ n ∈ d.weights P t, n ≤ reachBytes) :
    ∃ (A : Option Addr) (n c : Nat) (zs : List Int), v = .slice A n c ∧ n ≤ c ∧ c * bytes ≤ 140737488351232 ∧ Reads W W.heap.size 1 A n (cellsI k zs) ∧ ∀ z ∈ zs, (Lit.int k z).wf = true := by
  obtain ⟨a0, len, cap, rfl⟩ := okWide_slice ht hv
  obtain ⟨fuel, hf⟩ := h
  rcases open_ints ht he hC hf with ⟨hcs, _⟩ | ⟨a, l, c, zs, hcs, _, hl, hm, hz, hx, hcell, hwz⟩
  · simp [Value.cells] at hcs
    obtain ⟨rfl, rfl, rfl⟩ := hcs
    exact ⟨none, 0, 0, [], rfl, Nat.le_refl _, by omega, Reads.none_, by simp⟩
  · simp [Value.cells] at hcs
    obtain ⟨rfl, rfl, rfl⟩ := hcs
    simp only [if_true] at hz
    simp only [Prod.mk.injEq] at hx
    obtain ⟨rfl, _⟩ := hx
    simp only [DataW.weights, ht, hby] at hw
    refine ⟨some a, len, cap, zs.take len, rfl, hl, ?_, ⟨by rw [length_cellsI, List.length_take]; omega, fun hn => ⟨a, rfl, ?_, fun j u hu => ?_⟩⟩, fun z hs => hwz z (List.mem_of_mem_take hs)⟩
    · have := hw _ (List.mem_cons_self ..)
      simp only [lits, List.length_map, List.length_take, List.length_drop, reachBytes] at this
      have e1 : min len zs.length + (zs.length - len) = cap := by omega
      rw [e1] at this
      exact this
    · have := block_lt_of_cell (hcell 0 (by omega))
      rwa [block_of_add] at this
    · rw [getElem?_cellsI, Option.map_eq_some_iff] at hu
      obtain ⟨s, hs, rfl⟩ := hu
      have hj : j < len := by
        have := (List.getElem?_eq_some_iff.1 hs).1
        simp at this; omega
      rw [List.getElem?_take_of_lt hj] at hs
      rw [hcell j (by omega)]
      simp [hs]

theorem weights_of {ts : List TypeId} {ds : List (DataW H)} (h : (DataW.weightsEach P ts ds).all (· ≤ reachBytes) = true) {j : Nat} {t : TypeId} {d : DataW H} (ht : ts[j]? = some t) (hd : ds[j]? = some d) : ∀ n ∈ d.weights P t, n ≤ reachBytes := by
  intro n hn
  have := List.all_eq_true.1 h _ (DataW.weights_mem_each ht hd n hn)
  simpa using this
end
end Go.Proofs.YtcockikekgmfkaaDoor
