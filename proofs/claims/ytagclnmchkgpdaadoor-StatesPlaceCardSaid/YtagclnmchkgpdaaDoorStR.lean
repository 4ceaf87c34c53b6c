/-
  The statement StatesTell: its walk.
-/
import Derived.Test.YtagclnmchkgpdaaDoorStQ
namespace Go.Proofs.YtagclnmchkgpdaaDoor
open Go.RowKit

theorem adj_nil {α : Type} (R : α → α → Prop) : adjB R [] = true := adjB_true (Adj.one (by simp))
theorem parts_nil : partsB [] = true := by unfold partsB; rw [adj_nil]; simp
theorem parts_zero : partsB [0] = true := by
  unfold partsB
  rw [adjB_true (Adj.one (by simp))]
  simp [partB]
def coW1 : Co := ⟨5, 2, 4, 1, 0, [], [], 0⟩
def coW2 : Co := ⟨2, 2, 0, 1, 0, [0], [], 0⟩
theorem may_W1 : mayB coW1 = true := by simp [mayB, coW1, idleB, rangeB, parts_nil, adj_nil]
theorem may_W2 : mayB coW2 = true := by simp [mayB, coW2, tailB, rangeB, parts_zero, adj_nil]
theorem init_W1e : initE coW1 2 7 = 0 := by
  unfold initE chkE
  rw [may_W1]
  simp [coW1, beginsB]
theorem init_W1c : initC coW1 2 7 = ⟨1, 2, 5, 7, 0, [], [], 0⟩ := by
  unfold initC
  rw [init_W1e]
  simp [coW1]
theorem init_W2e : initE coW2 2 7 = 180 := by
  unfold initE chkE
  rw [may_W2]
  simp [coW2, beginsB]

set_option maxRecDepth 100000 in
set_option maxHeartbeats 1000000 in
theorem wakes_any (w : World) (hg : HasET w) : Calls Tryd.prog 9 #[] w fun e w' => e = .returned (.bool true) ∧ Below w.heap.size w w' := by
  have h1 := Init_any coW1 none none 0 0 2 7 w ⟨Reads.none_, Reads.none_, by simp [coW1], by simp [coW1]⟩ hg (by simp [coW1])
  rw [init_W1e, init_W1c] at h1
  have H1 := Lib.hid h1
  have HG := Lib.hid hg
  clear h1 hg
  go_enter Tryd.func9, Tryd.ntmps9
  go_wp2_with fail
  refine H1.out.mono ?_
  rintro e w1 ⟨A1, D1, c1, e1, rfl, _, b1, _, _⟩
  have kc := Blk.new w1 26 #[.int .i8 1, .int .i64 2, .int .i64 5, .int .i64 7, .int .i64 0, .slice A1 0 c1, .slice D1 0 e1, .int .i64 0]
  have b2 := bal b1 (.cells #[.int .i8 1, .int .i64 2, .int .i64 5, .int .i64 7, .int .i64 0, .slice A1 0 c1, .slice D1 0 e1, .int .i64 0] 26)
  have hsz : w1.heap.size < (w1.alloc (.cells #[.int .i8 1, .int .i64 2, .int .i64 5, .int .i64 7, .int .i64 0, .slice A1 0 c1, .slice D1 0 e1, .int .i64 0] 26)).heap.size := by simp
  have KC := Lib.hid kc
  have B2 := Lib.hid b2
  clear kc b2
  go_wp2_with fail
  generalize hW : w1.alloc (.cells #[.int .i8 1, .int .i64 2, .int .i64 5, .int .i64 7, .int .i64 0, .slice A1 0 c1, .slice D1 0 e1, .int .i64 0] 26) = W at *
  have hws : w1.heap.size + 1 = W.heap.size := by rw [← hW]; simp
  rw [hws]
  have b3 := bal B2.out (.cells #[.int .i64 0] 3)
  have hrd := reads_newI W 3 [0]
  have hin := Init_any coW2 (some ⟨W.heap.size, 0, none⟩) none 1 0 2 7 (W.alloc (.cells #[.int .i64 0] 3)) ⟨by simpa [cellsI, coW2] using hrd, Reads.none_, by simp [coW2], by simp [coW2]⟩ (HG.out.up b3) (by simp [coW2])
  rw [init_W2e] at hin
  refine (show Calls Tryd.prog 23 #[.agg #[.int .i8 2, .int .i64 2, .int .i64 0, .int .i64 1, .int .i64 0, .slice (some ⟨W.heap.size, 0, none⟩) 1 1, .slice none 0 0, .int .i64 0], .int .i64 2, .int .i64 7] _ _ from hin).mono ?_
  rintro e w3 ⟨A3, D3, c3, e3, rfl, _, b4, _, _⟩
  have bb := btrans b3 b4
  have kc := (KC.out.alloc (.cells #[.int .i64 0] 3)).below b4 (by simp; omega)
  have x0 := kc.cell 0
  have x2 := kc.cell 2
  have x3 := kc.cell 3
  have hz4 := b4.size
  rw [World.size_alloc] at hz4
  have hlt4 : w1.heap.size < w3.heap.size := by omega
  have hne4 : ¬ w1.heap.size = w3.heap.size := by omega
  clear hin hrd hW hws b3 b4 kc
  generalize initC coW2 2 7 = d3
  go_wp2_with fail
  go_ret
  exact ⟨rfl, bal bb _⟩
end Go.Proofs.YtagclnmchkgpdaaDoor
