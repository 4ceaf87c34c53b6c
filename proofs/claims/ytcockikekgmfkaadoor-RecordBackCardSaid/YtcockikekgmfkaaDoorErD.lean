/-
  What errors.As leaves behind; the library's own variable.
-/
import Derived.Test.YtcockikekgmfkaaDoorErC
import Derived.Test.YtcockikekgmfkaaDoorWords
namespace Go.Proofs.YtcockikekgmfkaaDoor
open Go.RowKit

/-- The library's own variable holds the handle of the type error. -/
def HasET (w : World) : Prop := w.cell? ⟨0, 0, none⟩ = some (.iface 136 (.agg #[.pointer (some ⟨1, 87, none⟩)]))
theorem HasET.lt {w : World} (h : HasET w) : 0 < w.heap.size := by
  rcases Nat.lt_or_ge 0 w.heap.size with h1 | h1
  · exact h1
  · unfold HasET at h; simp [World.cell?, Array.getElem?_eq_none h1] at h
theorem HasET.below {w w' : World} (h : HasET w) {B : Nat} (hb : Below B w w') (hB : 0 < B) : HasET w' := (hb.cell (p := ⟨0, 0, none⟩) hB).trans h
theorem HasET.up {w w' : World} (h : HasET w) (hb : Below w.heap.size w w') : HasET w' := h.below hb h.lt

theorem asW_cell (w : World) (n : Int) : (asWorld (w.alloc (.cells #[.int .i64 0] 32)) w.heap.size n).cell? ⟨w.heap.size, 0, none⟩ = some (.int .i64 n) := by
  unfold asWorld
  refine World.cell?_setCell_same' _ _ _ ?_
  rw [World.cell?_alloc_lt _ _ ⟨w.heap.size, 0, none⟩ (by simp only [World.size_alloc]; omega), World.cell?_alloc_lt _ _ ⟨w.heap.size, 0, none⟩ (by simp only [World.size_alloc]; omega), World.cell?_alloc_lt _ _ ⟨w.heap.size, 0, none⟩ (by simp only [World.size_alloc]; omega), World.cell?_alloc_lt _ _ ⟨w.heap.size, 0, none⟩ (by simp only [World.size_alloc]; omega)]
  simp
theorem asW_below (w : World) (n : Int) : Below w.heap.size w (asWorld (w.alloc (.cells #[.int .i64 0] 32)) w.heap.size n) := by
  rw [asWorld]
  refine Below.setCell (p := ⟨w.heap.size, 0, none⟩) ?_ (Nat.le_refl _) _
  exact ((((((Below.refl _ w).alloc (Nat.le_refl _) _).alloc (by simp) _).alloc (by simp only [World.size_alloc]; omega) _).alloc (by simp only [World.size_alloc]; omega) _).alloc (by simp only [World.size_alloc]; omega) _)
theorem cell_lt {w : World} {b o : Nat} {v : Value} (h : w.cell? ⟨b, o, none⟩ = some v) : b < w.heap.size := by
  rcases Nat.lt_or_ge b w.heap.size with h1 | h1
  · exact h1
  · simp [World.cell?, Array.getElem?_eq_none h1] at h
end Go.Proofs.YtcockikekgmfkaaDoor
