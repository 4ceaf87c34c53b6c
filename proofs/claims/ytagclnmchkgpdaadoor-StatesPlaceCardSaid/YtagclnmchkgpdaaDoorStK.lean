/-
  Layer 18: a copy of a transactional id; a tick.
-/
import Derived.Test.YtagclnmchkgpdaaDoorStJ
namespace Go.Proofs.YtagclnmchkgpdaaDoor
open Go.RowKit

/-- A transactional id that is returned: its lists are those that came in, or new. -/
def CoPost (d : Co) (A D : Option Addr) (w : World) (e : Ending) (w' : World) : Prop :=
  ∃ (A1 D1 : Option Addr) (c1 e1 : Nat), e = .returned (.agg #[.int .i8 d.st, .int .i64 d.pid, .int .i64 d.ep, .int .i64 d.tm, .int .i64 d.th, .slice A1 d.ps.length c1, .slice D1 d.qs.length e1, .int .i64 d.ag]) ∧ CoR w' w'.heap.size d A1 D1 ∧ Below w.heap.size w w' ∧ ((A1 = A ∧ D1 = D) ∨ (NewAt w.heap.size d.ps.length A1 ∧ NewAt w.heap.size d.qs.length D1))
/-- .. they are new. -/
def CoNew (d : Co) (w : World) (e : Ending) (w' : World) : Prop :=
  ∃ (A1 D1 : Option Addr) (c1 e1 : Nat), e = .returned (.agg #[.int .i8 d.st, .int .i64 d.pid, .int .i64 d.ep, .int .i64 d.tm, .int .i64 d.th, .slice A1 d.ps.length c1, .slice D1 d.qs.length e1, .int .i64 d.ag]) ∧ CoR w' w'.heap.size d A1 D1 ∧ Below w.heap.size w w' ∧ NewAt w.heap.size d.ps.length A1 ∧ NewAt w.heap.size d.qs.length D1

set_option maxRecDepth 100000 in
set_option maxHeartbeats 1000000 in
theorem own_any (c : Co) (A1 D1 : Option Addr) (c1 e1 : Nat) (w : World) (h1 : CoR w w.heap.size c A1 D1) :
    Calls Tryd.prog 36 #[(.agg #[.int .i8 c.st, .int .i64 c.pid, .int .i64 c.ep, .int .i64 c.tm, .int .i64 c.th, .slice A1 c.ps.length c1, .slice D1 c.qs.length e1, .int .i64 c.ag])] w (CoNew c w) := by
  have hps := h1.2.2.1
  have hqs := h1.2.2.2
  have h2 := (h1.al (.cells #[.int .i8 c.st, .int .i64 c.pid, .int .i64 c.ep, .int .i64 c.tm, .int .i64 c.th, .slice A1 c.ps.length c1, .slice D1 c.qs.length e1, .int .i64 c.ag] 26)).al (.cells #[.int .i8 0, .int .i64 0, .int .i64 0, .int .i64 0, .int .i64 0, .slice none 0 0, .slice none 0 0, .int .i64 0] 26)
  have HC := Lib.hid (CloneI_any A1 c.ps c1 _ h2.1 (by omega))
  have H2 := Lib.hid h2
  have K1 := Lib.hid ((Blk.new w 26 #[.int .i8 c.st, .int .i64 c.pid, .int .i64 c.ep, .int .i64 c.tm, .int .i64 c.th, .slice A1 c.ps.length c1, .slice D1 c.qs.length e1, .int .i64 c.ag]).alloc (.cells #[.int .i8 0, .int .i64 0, .int .i64 0, .int .i64 0, .int .i64 0, .slice none 0 0, .slice none 0 0, .int .i64 0] 26))
  have kk := Blk.new (w.alloc (.cells #[.int .i8 c.st, .int .i64 c.pid, .int .i64 c.ep, .int .i64 c.tm, .int .i64 c.th, .slice A1 c.ps.length c1, .slice D1 c.qs.length e1, .int .i64 c.ag] 26)) 26 #[.int .i8 0, .int .i64 0, .int .i64 0, .int .i64 0, .int .i64 0, .slice none 0 0, .slice none 0 0, .int .i64 0]
  rw [World.size_alloc] at kk
  have K2 := Lib.hid kk
  have HB := Lib.hid (bal (bal (Below.refl w.heap.size w) (.cells #[.int .i8 c.st, .int .i64 c.pid, .int .i64 c.ep, .int .i64 c.tm, .int .i64 c.th, .slice A1 c.ps.length c1, .slice D1 c.qs.length e1, .int .i64 c.ag] 26)) (.cells #[.int .i8 0, .int .i64 0, .int .i64 0, .int .i64 0, .int .i64 0, .slice none 0 0, .slice none 0 0, .int .i64 0] 26))
  have Q1 := Lib.hid h1.2.1
  clear h1 h2 kk
  go_enter Tryd.func36, Tryd.ntmps36
  go_wp2_with fail
  refine HC.out.mono ?_
  rintro e w2 ⟨A2, c2, rfl, r2, hc2, b2, f2⟩
  have hz2 := b2.size
  simp only [World.size_alloc] at hz2
  have k1 := K1.out.below b2 (by simp only [World.size_alloc]; omega)
  have k2 := K2.out.below b2 (by simp only [World.size_alloc]; omega)
  have u1 := k1.cell 5
  have u2 := k1.frozen 5
  have u3 := k1.cell 6
  go_wp2_with fail
  clear u1 u2 u3
  have k3 := k1.set_ 5 (.slice A2 c.ps.length c2)
  have k4 := k2.far (p := ⟨w.heap.size, 5, none⟩) (by simp) (.slice A2 c.ps.length c2)
  have b3 : Below w.heap.size w (w2.setCell ⟨w.heap.size, 5, none⟩ (.slice A2 c.ps.length c2)) := bset (btrans HB.out b2) (Nat.le_refl _) _
  have rr : Reads (w2.setCell ⟨w.heap.size, 5, none⟩ (.slice A2 c.ps.length c2)) w.heap.size 3 D1 c.qs.length (cellsP c.qs) := Q1.out.below b3
  simp only [World.size_alloc] at f2
  have r3 := r2.away f2 (p := ⟨w.heap.size, 5, none⟩) (by simp only; omega) (.slice A2 c.ps.length c2)
  have hle := b2.size
  generalize hw3 : w2.setCell ⟨w.heap.size, 5, none⟩ (.slice A2 c.ps.length c2) = w3 at *
  have hz3 : w.heap.size + 2 ≤ w3.heap.size := by rw [← hw3]; simpa [World.setCell] using hz2
  refine (CloneP_any D1 c.qs e1 w3 (rr.more b3.size) (by omega)).mono ?_
  rintro e w4 ⟨A4, c4, rfl, r4, hc4, b4, f4⟩
  have r5 := (r3.below (b4.mono (by rw [← hw3]; simp [World.setCell])))
  have k5 := k3.below b4 (by omega)
  have k6 := k4.below b4 (by omega)
  have x1 := k5.cell 0
  have x2 := k5.cell 1
  have x3 := k5.cell 2
  have x4 := k5.cell 3
  have x5 := k5.cell 4
  have x6 := k5.cell 5
  have x7 := k5.cell 6
  have x8 := k5.cell 7
  have x9 := k5.frozen 6
  have y0 := k6.cell 0
  have y1 := k6.cell 1
  have y2 := k6.cell 2
  have y3 := k6.cell 3
  have y4 := k6.cell 4
  have y5 := k6.cell 5
  have y6 := k6.cell 6
  have y7 := k6.cell 7
  have z0 := k6.frozen 0
  have z1 := k6.frozen 1
  have z2 := k6.frozen 2
  have z3 := k6.frozen 3
  have z4 := k6.frozen 4
  have z5 := k6.frozen 5
  have z6 := k6.frozen 6
  have z7 := k6.frozen 7
  go_wp2_with fail
  refine bodyPost_ret (v := .agg #[.int .i8 c.st, .int .i64 c.pid, .int .i64 c.ep, .int .i64 c.tm, .int .i64 c.th, .slice A2 c.ps.length c2, .slice A4 c.qs.length c4, .int .i64 c.ag]) (by simp [results, Tryd.results36, go_sem, y0, y1, y2, y3, y4, y5, y6, y7]) rfl ⟨A2, A4, c2, c4, rfl, ⟨?_, ?_, hps, hqs⟩, ?_, f2.mono (by omega), f4.mono (by have := b3.size; omega)⟩
  · have hs : w2.heap.size ≤ w4.heap.size := by
      have h1 := b4.size
      have h2 : w3.heap.size = w2.heap.size := by rw [← hw3]; simp [World.setCell]
      omega
    have q0 := r5.away f2 (p := ⟨w.heap.size, 6, none⟩) (by simp only; omega) (.slice A4 c.qs.length c4)
    have q1 := q0.away f2 (p := ⟨w.heap.size + 1, 0, none⟩) (by simp only; omega) (.int .i8 c.st)
    have q2 := q1.away f2 (p := ⟨w.heap.size + 1, 1, none⟩) (by simp only; omega) (.int .i64 c.pid)
    have q3 := q2.away f2 (p := ⟨w.heap.size + 1, 2, none⟩) (by simp only; omega) (.int .i64 c.ep)
    have q4 := q3.away f2 (p := ⟨w.heap.size + 1, 3, none⟩) (by simp only; omega) (.int .i64 c.tm)
    have q5 := q4.away f2 (p := ⟨w.heap.size + 1, 4, none⟩) (by simp only; omega) (.int .i64 c.th)
    have q6 := q5.away f2 (p := ⟨w.heap.size + 1, 5, none⟩) (by simp only; omega) (.slice A2 c.ps.length c2)
    have q7 := q6.away f2 (p := ⟨w.heap.size + 1, 6, none⟩) (by simp only; omega) (.slice A4 c.qs.length c4)
    have q8 := q7.away f2 (p := ⟨w.heap.size + 1, 7, none⟩) (by simp only; omega) (.int .i64 c.ag)
    exact q8.more (by simpa [World.setCell] using hs)
  · have q0 := r4.away f4 (p := ⟨w.heap.size, 6, none⟩) (by simp only; omega) (.slice A4 c.qs.length c4)
    have q1 := q0.away f4 (p := ⟨w.heap.size + 1, 0, none⟩) (by simp only; omega) (.int .i8 c.st)
    have q2 := q1.away f4 (p := ⟨w.heap.size + 1, 1, none⟩) (by simp only; omega) (.int .i64 c.pid)
    have q3 := q2.away f4 (p := ⟨w.heap.size + 1, 2, none⟩) (by simp only; omega) (.int .i64 c.ep)
    have q4 := q3.away f4 (p := ⟨w.heap.size + 1, 3, none⟩) (by simp only; omega) (.int .i64 c.tm)
    have q5 := q4.away f4 (p := ⟨w.heap.size + 1, 4, none⟩) (by simp only; omega) (.int .i64 c.th)
    have q6 := q5.away f4 (p := ⟨w.heap.size + 1, 5, none⟩) (by simp only; omega) (.slice A2 c.ps.length c2)
    have q7 := q6.away f4 (p := ⟨w.heap.size + 1, 6, none⟩) (by simp only; omega) (.slice A4 c.qs.length c4)
    have q8 := q7.away f4 (p := ⟨w.heap.size + 1, 7, none⟩) (by simp only; omega) (.int .i64 c.ag)
    exact q8.more (by simp [World.setCell])
  · exact bset (bset (bset (bset (bset (bset (bset (bset (bset (btrans b3 b4) (Nat.le_refl _) _) (by omega) _) (by omega) _) (by omega) _) (by omega) _) (by omega) _) (by omega) _) (by omega) _) (by omega) _
end Go.Proofs.YtagclnmchkgpdaaDoor
