/-
  Small lemmas that many texts use.
-/
import Derived.Test.YtcockikekgmfkaaDoorWords
namespace Go.Proofs.YtcockikekgmfkaaDoor
open Go.RowKit

theorem ret_bool {a b : Bool} (h : a = b) : Ending.returned (.bool a) = .returned (.bool b) := by rw [h]
theorem ret_int {k : IntKind} {a b : Int} (h : a = b) : Ending.returned (.int k a) = .returned (.int k b) := by rw [h]
theorem bal {w w' : World} (h : Below w.heap.size w w') (o : Obj) : Below w.heap.size w (w'.alloc o) := h.alloc h.size o
theorem bset {w w' : World} (h : Below w.heap.size w w') {b o : Nat} (hb : w.heap.size ≤ b) (u : Value) : Below w.heap.size w (w'.setCell ⟨b, o, none⟩ u) := h.setCell (p := ⟨b, o, none⟩) hb u
theorem btrans {w w1 w2 : World} (h : Below w.heap.size w w1) (k : Below w1.heap.size w1 w2) : Below w.heap.size w w2 := h.trans (k.mono h.size)
theorem ne_true {a b : Int} (h : ¬ a = b) : (a != b) = true := by simpa using h
theorem ne_false {a b : Int} (h : a = b) : (a != b) = false := by simpa using h
theorem eqb_true {a b : Int} (h : a = b) : (a == b) = true := beq_iff_eq.2 h
theorem eqb_false {a b : Int} (h : ¬ a = b) : (a == b) = false := beq_eq_false_iff_ne.2 h
theorem dec_true {p : Prop} [Decidable p] (h : p) : decide p = true := decide_eq_true h
theorem dec_false {p : Prop} [Decidable p] (h : ¬ p) : decide p = false := decide_eq_false h
end Go.Proofs.YtcockikekgmfkaaDoor
