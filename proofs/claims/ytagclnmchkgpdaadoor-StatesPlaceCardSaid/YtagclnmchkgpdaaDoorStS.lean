/-
  The statement StatesTell: its walk.
-/
import Derived.Test.YtagclnmchkgpdaaDoorStR
namespace Go.Proofs.YtagclnmchkgpdaaDoor
open Go.RowKit

/-- The lists of a transactional id, however long. -/
def CoRaw (w : World) (c : Co) (A D : Option Addr) : Prop :=
  Reads w w.heap.size 1 A c.ps.length (cellsI .i64 c.ps) ∧ Reads w w.heap.size 3 D c.qs.length (cellsP c.qs) ∧ -128 ≤ c.st ∧ c.st ≤ 127
theorem CoRaw.small {w : World} {c : Co} {A D : Option Addr} (h : CoRaw w c A D) (hb : bigB c = false) : CoR w w.heap.size c A D := by
  unfold bigB at hb
  simp only [Bool.or_eq_false_iff, decide_eq_false_iff_not] at hb
  exact ⟨h.1, h.2.1, by omega, by omega⟩

set_option maxRecDepth 100000 in
set_option maxHeartbeats 1000000 in
theorem tell_big (c d : Co) (A1 D1 : Option Addr) (c1 e1 : Nat) (A2 D2 : Option Addr) (c2 e2 : Nat) (yes : Bool) (x : Int) (w : World) (hg : HasET w) (hbig : bigB c = true ∨ (bigB c = false ∧ bigB d = true)) :
    Calls Tryd.prog 3 #[(.agg #[.int .i8 c.st, .int .i64 c.pid, .int .i64 c.ep, .int .i64 c.tm, .int .i64 c.th, .slice A1 c.ps.length c1, .slice D1 c.qs.length e1, .int .i64 c.ag]), (.agg #[.int .i8 d.st, .int .i64 d.pid, .int .i64 d.ep, .int .i64 d.tm, .int .i64 d.th, .slice A2 d.ps.length c2, .slice D2 d.qs.length e2, .int .i64 d.ag]), .bool yes, .int .i64 x] w fun e w' => e = .returned (.bool true) ∧ Below w.heap.size w w' := by
  have HB := Lib.hid (bal (bal (Below.refl w.heap.size w) (.cells #[.int .i8 c.st, .int .i64 c.pid, .int .i64 c.ep, .int .i64 c.tm, .int .i64 c.th, .slice A1 c.ps.length c1, .slice D1 c.qs.length e1, .int .i64 c.ag] 26)) (.cells #[.int .i8 d.st, .int .i64 d.pid, .int .i64 d.ep, .int .i64 d.tm, .int .i64 d.th, .slice A2 d.ps.length c2, .slice D2 d.qs.length e2, .int .i64 d.ag] 26))
  have kk := Blk.new (w.alloc (.cells #[.int .i8 c.st, .int .i64 c.pid, .int .i64 c.ep, .int .i64 c.tm, .int .i64 c.th, .slice A1 c.ps.length c1, .slice D1 c.qs.length e1, .int .i64 c.ag] 26)) 26 #[.int .i8 d.st, .int .i64 d.pid, .int .i64 d.ep, .int .i64 d.tm, .int .i64 d.th, .slice A2 d.ps.length c2, .slice D2 d.qs.length e2, .int .i64 d.ag]
  rw [World.size_alloc] at kk
  have K2 := Lib.hid kk
  have G1 := Lib.hid (fun W => Great_any c A1 D1 c1 e1 W)
  have G2 := Lib.hid (fun W => Great_any d A2 D2 c2 e2 W)
  have HWK := Lib.hid (fun W (h : HasET W) => wakes_any W h)
  have HG := Lib.hid hg
  clear kk hg
  rcases hbig with h1 | ⟨h1, h2⟩
  · rw [h1] at G1
    clear h1
    go_enter Tryd.func3, Tryd.ntmps3
    go_wp2_with fail
    refine (G1.out _).mono ?_
    rintro e w1 ⟨rfl, b1⟩
    have bf := btrans HB.out b1
    go_wp2_with fail
    refine (HWK.out _ (HG.out.up bf)).mono ?_
    rintro e w2 ⟨rfl, b2⟩
    go_wp2_with fail
    go_ret
    exact ⟨rfl, btrans bf b2⟩
  · rw [h1] at G1
    rw [h2] at G2
    clear h1 h2
    go_enter Tryd.func3, Tryd.ntmps3
    go_wp2_with fail
    refine (G1.out _).mono ?_
    rintro e w1 ⟨rfl, b1⟩
    have bf := btrans HB.out b1
    have hz := b1.size
    simp only [World.size_alloc] at hz
    have k6 := K2.out.below b1 (by simp only [World.size_alloc]; omega)
    have y0 := k6.cell 0
    have y1 := k6.cell 1
    have y2 := k6.cell 2
    have y3 := k6.cell 3
    have y4 := k6.cell 4
    have y5 := k6.cell 5
    have y6 := k6.cell 6
    have y7 := k6.cell 7
    go_wp2_with fail
    refine (G2.out _).mono ?_
    rintro e w2 ⟨rfl, b2⟩
    have bg := btrans bf b2
    go_wp2_with fail
    refine (HWK.out _ (HG.out.up bg)).mono ?_
    rintro e w3 ⟨rfl, b3⟩
    go_wp2_with fail
    go_ret
    exact ⟨rfl, btrans bg b3⟩

set_option maxRecDepth 100000 in
set_option maxHeartbeats 2000000 in
theorem tell_ok (c d : Co) (A1 D1 : Option Addr) (c1 e1 : Nat) (A2 D2 : Option Addr) (c2 e2 : Nat) (yes : Bool) (x : Int) (w : World) (hg : HasET w) (h1 : CoR w w.heap.size c A1 D1) (h2 : CoR w w.heap.size d A2 D2) (s1 : -128 ≤ c.st) (s2 : c.st ≤ 127) (n1 : bigB c = false) (n2 : bigB d = false) :
    Calls Tryd.prog 3 #[(.agg #[.int .i8 c.st, .int .i64 c.pid, .int .i64 c.ep, .int .i64 c.tm, .int .i64 c.th, .slice A1 c.ps.length c1, .slice D1 c.qs.length e1, .int .i64 c.ag]), (.agg #[.int .i8 d.st, .int .i64 d.pid, .int .i64 d.ep, .int .i64 d.tm, .int .i64 d.th, .slice A2 d.ps.length c2, .slice D2 d.qs.length e2, .int .i64 d.ag]), .bool yes, .int .i64 x] w fun e w' => e = .returned (.bool true) ∧ Below w.heap.size w w' := by
  have HB := Lib.hid (bal (bal (Below.refl w.heap.size w) (.cells #[.int .i8 c.st, .int .i64 c.pid, .int .i64 c.ep, .int .i64 c.tm, .int .i64 c.th, .slice A1 c.ps.length c1, .slice D1 c.qs.length e1, .int .i64 c.ag] 26)) (.cells #[.int .i8 d.st, .int .i64 d.pid, .int .i64 d.ep, .int .i64 d.tm, .int .i64 d.th, .slice A2 d.ps.length c2, .slice D2 d.qs.length e2, .int .i64 d.ag] 26))
  have K1 := Lib.hid ((Blk.new w 26 #[.int .i8 c.st, .int .i64 c.pid, .int .i64 c.ep, .int .i64 c.tm, .int .i64 c.th, .slice A1 c.ps.length c1, .slice D1 c.qs.length e1, .int .i64 c.ag]).alloc (.cells #[.int .i8 d.st, .int .i64 d.pid, .int .i64 d.ep, .int .i64 d.tm, .int .i64 d.th, .slice A2 d.ps.length c2, .slice D2 d.qs.length e2, .int .i64 d.ag] 26))
  have kk := Blk.new (w.alloc (.cells #[.int .i8 c.st, .int .i64 c.pid, .int .i64 c.ep, .int .i64 c.tm, .int .i64 c.th, .slice A1 c.ps.length c1, .slice D1 c.qs.length e1, .int .i64 c.ag] 26)) 26 #[.int .i8 d.st, .int .i64 d.pid, .int .i64 d.ep, .int .i64 d.tm, .int .i64 d.th, .slice A2 d.ps.length c2, .slice D2 d.qs.length e2, .int .i64 d.ag]
  rw [World.size_alloc] at kk
  have K2 := Lib.hid kk
  have g1 := fun W => Great_any c A1 D1 c1 e1 W
  have g2 := fun W => Great_any d A2 D2 c2 e2 W
  rw [n1] at g1
  rw [n2] at g2
  have G1 := Lib.hid g1
  have G2 := Lib.hid g2
  have HWK := Lib.hid (fun W (h : Below w.heap.size w W) => wakes_any W (hg.up h))
  have M1 := Lib.hid (fun W (h : Below w.heap.size w W) => May_any c A1 D1 c1 e1 w.heap.size W (h1.below h) h.size)
  have M2 := Lib.hid (fun W (h : Below w.heap.size w W) => rMay_any c A1 D1 c1 e1 w.heap.size W (h1.below h) h.size s1 s2)
  have U1 := Lib.hid (fun W => Due_any c A1 D1 c1 e1 W)
  have U2 := Lib.hid (fun W => rDue_any c A1 D1 c1 e1 W)
  have E1 := Lib.hid (fun W => Ended_any c A1 D1 c1 e1 yes W)
  have E2 := Lib.hid (fun W => rEnded_any c A1 D1 c1 e1 yes W)
  have H1 := Lib.hid (fun W (h : Below w.heap.size w W) => Has_any c A1 D1 c1 e1 x w.heap.size W (h1.below h) h.size)
  have H2 := Lib.hid (fun W (h : Below w.heap.size w W) => rHas_any c A1 D1 c1 e1 x w.heap.size W (h1.below h) h.size)
  have S1 := Lib.hid (fun W (h : Below w.heap.size w W) => Same_any c d A1 D1 c1 e1 A2 D2 c2 e2 w.heap.size w.heap.size W (h1.below h) (h2.below h) h.size h.size)
  have S2 := Lib.hid (fun W (h : Below w.heap.size w W) => rSame_any c d A1 D1 c1 e1 A2 D2 c2 e2 w.heap.size w.heap.size W (h1.below h) (h2.below h) h.size h.size)
  generalize mayB c = q1 at *
  generalize dueB c = q2 at *
  generalize endedB c yes = q3 at *
  generalize decide (x ∈ c.ps) = q4 at *
  generalize sameB c d = q5 at *
  clear kk hg h1 h2 n1 n2 g1 g2
  go_enter Tryd.func3, Tryd.ntmps3
  go_wp2_with fail
  refine (G1.out _).mono ?_
  rintro e w1 ⟨rfl, b1⟩
  have bf := btrans HB.out b1
  have hz := b1.size
  simp only [World.size_alloc] at hz
  have k5 := K1.out.below b1 (by simp only [World.size_alloc]; omega)
  have k6 := K2.out.below b1 (by simp only [World.size_alloc]; omega)
  have x0 := k5.cell 0
  have x1 := k5.cell 1
  have x2 := k5.cell 2
  have x3 := k5.cell 3
  have x4 := k5.cell 4
  have x5 := k5.cell 5
  have x6 := k5.cell 6
  have x7 := k5.cell 7
  have y0 := k6.cell 0
  have y1 := k6.cell 1
  have y2 := k6.cell 2
  have y3 := k6.cell 3
  have y4 := k6.cell 4
  have y5 := k6.cell 5
  have y6 := k6.cell 6
  have y7 := k6.cell 7
  go_wp2_with fail
  refine (G2.out _).mono ?_
  rintro e w2 ⟨rfl, b2⟩
  have bg := btrans bf b2
  have k7 := k5.below b2 (by omega)
  have k8 := k6.below b2 (by omega)
  have hz2 := b2.size
  have hl1 : w.heap.size < w2.heap.size := by omega
  have hl2 : w.heap.size + 1 < w2.heap.size := by omega
  have p0 := bw_cell (B := w2.heap.size) (k7.cell 0) hl1
  have r0 := bw_cell (B := w2.heap.size) (k8.cell 0) hl2
  have p1 := bw_cell (B := w2.heap.size) (k7.cell 1) hl1
  have r1 := bw_cell (B := w2.heap.size) (k8.cell 1) hl2
  have p2 := bw_cell (B := w2.heap.size) (k7.cell 2) hl1
  have r2 := bw_cell (B := w2.heap.size) (k8.cell 2) hl2
  have p3 := bw_cell (B := w2.heap.size) (k7.cell 3) hl1
  have r3 := bw_cell (B := w2.heap.size) (k8.cell 3) hl2
  have p4 := bw_cell (B := w2.heap.size) (k7.cell 4) hl1
  have r4 := bw_cell (B := w2.heap.size) (k8.cell 4) hl2
  have p5 := bw_cell (B := w2.heap.size) (k7.cell 5) hl1
  have r5 := bw_cell (B := w2.heap.size) (k8.cell 5) hl2
  have p6 := bw_cell (B := w2.heap.size) (k7.cell 6) hl1
  have r6 := bw_cell (B := w2.heap.size) (k8.cell 6) hl2
  have p7 := bw_cell (B := w2.heap.size) (k7.cell 7) hl1
  have r7 := bw_cell (B := w2.heap.size) (k8.cell 7) hl2
  have HBN := Lib.hid (fun n : BW w2.heap.size w2 => btrans bg n.2)
  clear x0 y0 x1 y1 x2 y2 x3 y3 x4 y4 x5 y5 x6 y6 x7 y7
  go_wp2_with fail
  refine wp_region_bq w2.heap.size (by kernel_rfl) (by kernel_rfl) ?_
  repeat (go_big_quiet_step ((first | (go_at_call 10; exact bw_call (Nat.le_refl _) (M1.out _ (HBN.out _))) | (go_at_call 11; exact bw_call (Nat.le_refl _) (M2.out _ (HBN.out _))) | (go_at_call 12; exact bw_call (Nat.le_refl _) (U1.out _)) | (go_at_call 13; exact bw_call (Nat.le_refl _) (U2.out _)) | (go_at_call 14; exact bw_call (Nat.le_refl _) (E1.out _)) | (go_at_call 15; exact bw_call (Nat.le_refl _) (E2.out _)) | (go_at_call 16; exact bw_call (Nat.le_refl _) (H1.out _ (HBN.out _))) | (go_at_call 17; exact bw_call (Nat.le_refl _) (H2.out _ (HBN.out _))) | (go_at_call 18; exact bw_call (Nat.le_refl _) (S1.out _ (HBN.out _))) | (go_at_call 19; exact bw_call (Nat.le_refl _) (S2.out _ (HBN.out _))) | (go_at_call 9; exact bw_call (Nat.le_refl _) (HWK.out _ (HBN.out _))))))
  refine wpQuiet_nil ?_
  rintro _ ⟨n, rfl⟩
  have hn := HBN.out n
  go_wp2_with fail
  go_ret
  exact ⟨rfl, hn⟩

theorem tell_walk (c d : Co) (A1 D1 : Option Addr) (c1 e1 : Nat) (A2 D2 : Option Addr) (c2 e2 : Nat) (yes : Bool) (x : Int) (w : World) (hg : HasET w) (h1 : CoRaw w c A1 D1) (h2 : CoRaw w d A2 D2) :
    Calls Tryd.prog 3 #[(.agg #[.int .i8 c.st, .int .i64 c.pid, .int .i64 c.ep, .int .i64 c.tm, .int .i64 c.th, .slice A1 c.ps.length c1, .slice D1 c.qs.length e1, .int .i64 c.ag]), (.agg #[.int .i8 d.st, .int .i64 d.pid, .int .i64 d.ep, .int .i64 d.tm, .int .i64 d.th, .slice A2 d.ps.length c2, .slice D2 d.qs.length e2, .int .i64 d.ag]), .bool yes, .int .i64 x] w fun e w' => e = .returned (.bool true) ∧ Below w.heap.size w w' := by
  cases n1 : bigB c
  · cases n2 : bigB d
    · exact tell_ok c d A1 D1 c1 e1 A2 D2 c2 e2 yes x w hg (h1.small n1) (h2.small n2) h1.2.2.1 h1.2.2.2 n1 n2
    · exact tell_big c d A1 D1 c1 e1 A2 D2 c2 e2 yes x w hg (.inr ⟨n1, n2⟩)
  · exact tell_big c d A1 D1 c1 e1 A2 D2 c2 e2 yes x w hg (.inl n1)
end Go.Proofs.YtagclnmchkgpdaaDoor
