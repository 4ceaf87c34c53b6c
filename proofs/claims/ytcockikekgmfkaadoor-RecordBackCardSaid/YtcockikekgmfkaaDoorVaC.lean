/-
  The code that an error of package varint wraps.
-/
import Derived.Test.YtcockikekgmfkaaDoorErVa
import Derived.Test.YtcockikekgmfkaaDoorBits
import Derived.Test.YtcockikekgmfkaaDoorWords
namespace Go.Proofs.YtcockikekgmfkaaDoor
open Go.RowKit

theorem asWorld_cell (w : World) (n : Int) : (asWorld (w.alloc (.cells #[.int .i64 0] 32)) w.heap.size n).cell? ⟨w.heap.size, 0, none⟩ = some (.int .i64 n) := by
  unfold asWorld
  refine World.cell?_setCell_same' _ _ _ ?_
  rw [World.cell?_alloc_lt _ _ ⟨w.heap.size, 0, none⟩ (by simp only [World.size_alloc]; omega), World.cell?_alloc_lt _ _ ⟨w.heap.size, 0, none⟩ (by simp only [World.size_alloc]; omega), World.cell?_alloc_lt _ _ ⟨w.heap.size, 0, none⟩ (by simp only [World.size_alloc]; omega), World.cell?_alloc_lt _ _ ⟨w.heap.size, 0, none⟩ (by simp only [World.size_alloc]; omega)]
  simp

set_option maxHeartbeats 1000000 in
/-- varint.code(&broken{.., n}) is n. -/
theorem code_broken (b : Nat) (n : Int) (w : World) (hg : w.cell? ⟨0, 0, none⟩ = some (.iface 136 (.agg #[.pointer (some ⟨1, 87, none⟩)])))
    (hb1 : w.cell? ⟨b, 1, none⟩ = some (.int .i64 n)) :
    Calls Tryd.prog 91 #[.iface 158 (.pointer (some ⟨b, 0, none⟩))] w fun e w' => e = .returned (.int .i64 n) ∧ Below w.heap.size w w' := by
  have hg1 := (World.cell?_alloc_lt w (.cells #[.int .i64 0] 32) ⟨0, 0, none⟩ (by
    rcases Nat.lt_or_ge 0 w.heap.size with h | h
    · exact h
    · simp [World.cell?, Array.getElem?_eq_none h] at hg)).trans hg
  have hbl : b < w.heap.size := by
    rcases Nat.lt_or_ge b w.heap.size with h | h
    · exact h
    · simp [World.cell?, Array.getElem?_eq_none h] at hb1
  have hb2 := (World.cell?_alloc_lt w (.cells #[.int .i64 0] 32) ⟨b, 1, none⟩ hbl).trans hb1
  have HAS := Lib.hid (ErVa.as_any b w.heap.size n (.int .i64 0) (w.alloc (.cells #[.int .i64 0] 32)) hg1 hb2 (by simp) (by simp))
  clear hg1 hb2 hb1 hg
  go_enter Tryd.func91, Tryd.ntmps91
  go_wp2_with (go_at_call 85; refine HAS.out.mono ?_; rintro e w1 ⟨rfl, hw1⟩; have hc1 : w1.cell? ⟨w.heap.size, 0, none⟩ = some (.int .i64 n) := (by rw [← hw1]; exact asWorld_cell w n); have HW1 := Lib.hid hw1; clear hw1)
  go_ret
  refine ⟨rfl, ?_⟩
  rw [← HW1.out, asWorld]
  refine Below.setCell (p := ⟨w.heap.size, 0, none⟩) ?_ (Nat.le_refl _) _
  exact ((((((Below.refl _ w).alloc (Nat.le_refl _) _).alloc (by simp) _).alloc (by simp only [World.size_alloc]; omega) _).alloc (by simp only [World.size_alloc]; omega) _).alloc (by simp only [World.size_alloc]; omega) _)
end Go.Proofs.YtcockikekgmfkaaDoor
