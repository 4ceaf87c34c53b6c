/-
  Layer 18: a tick, of the program and of the document.
-/
import Derived.Test.YtagclnmchkgpdaaDoorStL
namespace Go.Proofs.YtagclnmchkgpdaaDoor
open Go.RowKit

theorem CoR.sets {w : World} {c : Co} {A D : Option Addr} {lo : Nat} (h : CoR w w.heap.size c A D) (f : NewAt lo c.ps.length A) (g : NewAt lo c.qs.length D) {b o : Nat} (hb : b < lo) (u : Value) : CoR (w.setCell ⟨b, o, none⟩ u) (w.setCell ⟨b, o, none⟩ u).heap.size c A D := by
  have hs : (w.setCell ⟨b, o, none⟩ u).heap.size = w.heap.size := by simp [World.setCell]
  rw [hs]
  exact ⟨h.1.away f hb u, h.2.1.away g hb u, h.2.2⟩

noncomputable def tickC (c : Co) : Co := if mayB c = true ∧ c.st = 2 then { c with ag := if c.ag < 1048576 then c.ag + 1 else c.ag } else c

theorem range_ag {c : Co} (h : rangeB c = true) : 0 ≤ c.ag ∧ c.ag ≤ 1048576 := by
  unfold rangeB at h
  simp only [Bool.and_eq_true, decide_eq_true_eq] at h
  omega
theorem may_range {c : Co} (h : mayB c = true) (h0 : ¬ c.st = 0) : rangeB c = true := by
  unfold mayB at h
  rw [if_neg h0] at h
  split at h
  · unfold tailB at h; simp only [Bool.and_eq_true] at h; exact h.2.2.2
  · split at h
    · unfold tailB at h; simp only [Bool.and_eq_true] at h; exact h.2.2
    · split at h
      · unfold tailB at h; simp only [Bool.and_eq_true] at h; exact h.2
      · split at h
        · unfold idleB at h; simp only [Bool.and_eq_true] at h; exact h.2.2.2.2
        · cases h
theorem begins_tick (st : Int) : beginsB st 4 = true ↔ st = 2 := by
  unfold beginsB
  split
  · simp; omega
  · split
    · simp [*]
    · split
      · simp; omega
      · split
        · simp; omega
        · simp; omega
theorem chk_tick {c : Co} (h : mayB c = true) (h2 : c.st = 2) : chkE c 4 true = 0 := by
  unfold chkE
  rw [if_neg (by simp [h]), if_neg (by rw [(begins_tick c.st).2 h2]; simp)]
theorem chk_tick_no {c : Co} (h : ¬ (mayB c = true ∧ c.st = 2)) : ¬ chkE c 4 true = 0 := by
  unfold chkE
  by_cases hm : mayB c = true
  · have h2 : ¬ c.st = 2 := fun x => h ⟨hm, x⟩
    have hb : beginsB c.st 4 = false := by
      cases hb : beginsB c.st 4
      · rfl
      · exact absurd ((begins_tick c.st).1 hb) h2
    rw [if_neg (by simp [hm]), if_pos hb]; decide
  · rw [if_pos (.inr (by simpa using hm))]; decide

set_option maxRecDepth 100000 in
set_option maxHeartbeats 1000000 in
theorem Tick_no (c : Co) (A1 D1 : Option Addr) (c1 e1 : Nat) (w : World) (h1 : CoR w w.heap.size c A1 D1) (hno : ¬ (mayB c = true ∧ c.st = 2)) :
    Calls Tryd.prog 25 #[(.agg #[.int .i8 c.st, .int .i64 c.pid, .int .i64 c.ep, .int .i64 c.tm, .int .i64 c.th, .slice A1 c.ps.length c1, .slice D1 c.qs.length e1, .int .i64 c.ag])] w (CoPost (tickC c) A1 D1 w) := by
  have ht : tickC c = c := by unfold tickC; rw [if_neg hno]
  rw [ht]
  have h2 := (h1.al (.cells #[.int .i8 c.st, .int .i64 c.pid, .int .i64 c.ep, .int .i64 c.tm, .int .i64 c.th, .slice A1 c.ps.length c1, .slice D1 c.qs.length e1, .int .i64 c.ag] 26)).al (.cells #[.int .i8 0, .int .i64 0, .int .i64 0, .int .i64 0, .int .i64 0, .slice none 0 0, .slice none 0 0, .int .i64 0] 26)
  have hc := check_any c A1 D1 c1 e1 4 true _ _ h2 (Nat.le_refl _)
  have HC := Lib.hid hc
  have HNO := Lib.hid (chk_tick_no hno)
  have HB := Lib.hid (bal (bal (Below.refl w.heap.size w) (.cells #[.int .i8 c.st, .int .i64 c.pid, .int .i64 c.ep, .int .i64 c.tm, .int .i64 c.th, .slice A1 c.ps.length c1, .slice D1 c.qs.length e1, .int .i64 c.ag] 26)) (.cells #[.int .i8 0, .int .i64 0, .int .i64 0, .int .i64 0, .int .i64 0, .slice none 0 0, .slice none 0 0, .int .i64 0] 26))
  have K1 := Lib.hid ((Blk.new w 26 #[.int .i8 c.st, .int .i64 c.pid, .int .i64 c.ep, .int .i64 c.tm, .int .i64 c.th, .slice A1 c.ps.length c1, .slice D1 c.qs.length e1, .int .i64 c.ag]).alloc (.cells #[.int .i8 0, .int .i64 0, .int .i64 0, .int .i64 0, .int .i64 0, .slice none 0 0, .slice none 0 0, .int .i64 0] 26))
  have kk := Blk.new (w.alloc (.cells #[.int .i8 c.st, .int .i64 c.pid, .int .i64 c.ep, .int .i64 c.tm, .int .i64 c.th, .slice A1 c.ps.length c1, .slice D1 c.qs.length e1, .int .i64 c.ag] 26)) 26 #[.int .i8 0, .int .i64 0, .int .i64 0, .int .i64 0, .int .i64 0, .slice none 0 0, .slice none 0 0, .int .i64 0]
  rw [World.size_alloc] at kk
  have K2 := Lib.hid kk
  have H1 := Lib.hid h1
  clear h2 hc kk h1 ht hno
  go_enter Tryd.func25, Tryd.ntmps25
  go_wp2_with fail
  refine HC.out.mono ?_
  rintro e w2 ⟨b2, hres⟩
  rcases hres with ⟨hz, _⟩ | ⟨_, b, rfl, _, _, _⟩
  · exact absurd hz HNO.out
  have hz2 := b2.size
  simp only [World.size_alloc] at hz2
  have k5 := K1.out.below b2 (by simp only [World.size_alloc]; omega)
  have k6 := K2.out.below b2 (by simp only [World.size_alloc]; omega)
  have x0 := k5.cell 0
  have x1 := k5.cell 1
  have x2 := k5.cell 2
  have x3 := k5.cell 3
  have x4 := k5.cell 4
  have x5 := k5.cell 5
  have x6 := k5.cell 6
  have x7 := k5.cell 7
  have y0 := k6.cell 0
  have z0 := k6.frozen 0
  have y1 := k6.cell 1
  have z1 := k6.frozen 1
  have y2 := k6.cell 2
  have z2 := k6.frozen 2
  have y3 := k6.cell 3
  have z3 := k6.frozen 3
  have y4 := k6.cell 4
  have z4 := k6.frozen 4
  have y5 := k6.cell 5
  have z5 := k6.frozen 5
  have y6 := k6.cell 6
  have z6 := k6.frozen 6
  have y7 := k6.cell 7
  have z7 := k6.frozen 7
  have bf := btrans HB.out b2
  go_wp2_with fail
  refine bodyPost_ret (v := .agg #[.int .i8 c.st, .int .i64 c.pid, .int .i64 c.ep, .int .i64 c.tm, .int .i64 c.th, .slice A1 c.ps.length c1, .slice D1 c.qs.length e1, .int .i64 c.ag]) (by simp [results, Tryd.results25, go_sem, y0, y1, y2, y3, y4, y5, y6, y7]) rfl ⟨A1, D1, c1, e1, rfl, ?_, ?_, .inl ⟨rfl, rfl⟩⟩
  · exact H1.out.up (bset (bset (bset (bset (bset (bset (bset (bset bf (by omega) _) (by omega) _) (by omega) _) (by omega) _) (by omega) _) (by omega) _) (by omega) _) (by omega) _)
  · exact (bset (bset (bset (bset (bset (bset (bset (bset bf (by omega) _) (by omega) _) (by omega) _) (by omega) _) (by omega) _) (by omega) _) (by omega) _) (by omega) _)

set_option maxRecDepth 100000 in
set_option maxHeartbeats 1000000 in
theorem Tick_lo (c : Co) (A1 D1 : Option Addr) (c1 e1 : Nat) (w : World) (h1 : CoR w w.heap.size c A1 D1) (hm : mayB c = true) (hst : c.st = 2) (hlim : c.ag < 1048576) :
    Calls Tryd.prog 25 #[(.agg #[.int .i8 c.st, .int .i64 c.pid, .int .i64 c.ep, .int .i64 c.tm, .int .i64 c.th, .slice A1 c.ps.length c1, .slice D1 c.qs.length e1, .int .i64 c.ag])] w (CoPost (tickC c) A1 D1 w) := by
  have hag := range_ag (may_range hm (by omega))
  have ht : tickC c = { c with ag := c.ag + 1 } := by
    unfold tickC
    rw [if_pos ⟨hm, hst⟩]
    rw [if_pos hlim]
  rw [ht]
  have h2 := (h1.al (.cells #[.int .i8 c.st, .int .i64 c.pid, .int .i64 c.ep, .int .i64 c.tm, .int .i64 c.th, .slice A1 c.ps.length c1, .slice D1 c.qs.length e1, .int .i64 c.ag] 26)).al (.cells #[.int .i8 0, .int .i64 0, .int .i64 0, .int .i64 0, .int .i64 0, .slice none 0 0, .slice none 0 0, .int .i64 0] 26)
  have hc := check_any c A1 D1 c1 e1 4 true _ _ h2 (Nat.le_refl _)
  have HC := Lib.hid hc
  have HYES := Lib.hid (chk_tick hm hst)
  have HB := Lib.hid (bal (bal (Below.refl w.heap.size w) (.cells #[.int .i8 c.st, .int .i64 c.pid, .int .i64 c.ep, .int .i64 c.tm, .int .i64 c.th, .slice A1 c.ps.length c1, .slice D1 c.qs.length e1, .int .i64 c.ag] 26)) (.cells #[.int .i8 0, .int .i64 0, .int .i64 0, .int .i64 0, .int .i64 0, .slice none 0 0, .slice none 0 0, .int .i64 0] 26))
  have K1 := Lib.hid ((Blk.new w 26 #[.int .i8 c.st, .int .i64 c.pid, .int .i64 c.ep, .int .i64 c.tm, .int .i64 c.th, .slice A1 c.ps.length c1, .slice D1 c.qs.length e1, .int .i64 c.ag]).alloc (.cells #[.int .i8 0, .int .i64 0, .int .i64 0, .int .i64 0, .int .i64 0, .slice none 0 0, .slice none 0 0, .int .i64 0] 26))
  have kk := Blk.new (w.alloc (.cells #[.int .i8 c.st, .int .i64 c.pid, .int .i64 c.ep, .int .i64 c.tm, .int .i64 c.th, .slice A1 c.ps.length c1, .slice D1 c.qs.length e1, .int .i64 c.ag] 26)) 26 #[.int .i8 0, .int .i64 0, .int .i64 0, .int .i64 0, .int .i64 0, .slice none 0 0, .slice none 0 0, .int .i64 0]
  rw [World.size_alloc] at kk
  have K2 := Lib.hid kk
  have H1 := Lib.hid h1
  have a1 := hag.1
  have a2 := hag.2
  clear h2 hc kk h1 ht hst hm hag
  go_enter Tryd.func25, Tryd.ntmps25
  go_wp2_with fail
  refine HC.out.mono ?_
  rintro e w2 ⟨b2, hres⟩
  obtain rfl : e = .returned .nilIface := by
    rcases hres with ⟨_, h⟩ | ⟨hz, _⟩
    · exact h
    · exact absurd HYES.out hz
  clear hres
  have hz2 := b2.size
  simp only [World.size_alloc] at hz2
  have k5 := K1.out.below b2 (by simp only [World.size_alloc]; omega)
  have k6 := K2.out.below b2 (by simp only [World.size_alloc]; omega)
  have x0 := k5.cell 0
  have x1 := k5.cell 1
  have x2 := k5.cell 2
  have x3 := k5.cell 3
  have x4 := k5.cell 4
  have x5 := k5.cell 5
  have x6 := k5.cell 6
  have x7 := k5.cell 7
  have y0 := k6.cell 0
  have z0 := k6.frozen 0
  have y1 := k6.cell 1
  have z1 := k6.frozen 1
  have y2 := k6.cell 2
  have z2 := k6.frozen 2
  have y3 := k6.cell 3
  have z3 := k6.frozen 3
  have y4 := k6.cell 4
  have z4 := k6.frozen 4
  have y5 := k6.cell 5
  have z5 := k6.frozen 5
  have y6 := k6.cell 6
  have z6 := k6.frozen 6
  have y7 := k6.cell 7
  have z7 := k6.frozen 7
  have bf := btrans HB.out b2
  have HOWN := Lib.hid (own_any c A1 D1 c1 e1 w2 (H1.out.up bf))
  go_wp2_with fail
  refine HOWN.out.mono ?_
  rintro e w3 ⟨A3, D3, c3, e3, rfl, r3, b3, f3, g3⟩
  have k7 := k6.below b3 (by omega)
  have hz3 := b3.size
  have hlt3 : w.heap.size + 1 < w3.heap.size := by omega
  have hne3 : ¬ w.heap.size + 1 = w3.heap.size := by omega
  have p0 := k7.cell 0
  have q0 := k7.frozen 0
  have p1 := k7.cell 1
  have q1 := k7.frozen 1
  have p2 := k7.cell 2
  have q2 := k7.frozen 2
  have p3 := k7.cell 3
  have q3 := k7.frozen 3
  have p4 := k7.cell 4
  have q4 := k7.frozen 4
  have p5 := k7.cell 5
  have q5 := k7.frozen 5
  have p6 := k7.cell 6
  have q6 := k7.frozen 6
  have p7 := k7.cell 7
  have q7 := k7.frozen 7
  have bg := btrans bf b3
  clear x0 x1 x2 x3 x4 x5 x6 x7 k5 k6
  go_wp2_with fail
  refine bodyPost_ret (v := .agg #[.int .i8 c.st, .int .i64 c.pid, .int .i64 c.ep, .int .i64 c.tm, .int .i64 c.th, .slice A3 c.ps.length c3, .slice D3 c.qs.length e3, .int .i64 (c.ag + 1)]) (by simp [results, Tryd.results25, go_sem, p0, p1, p2, p3, p4, p5, p6, p7, hlt3, hne3]) rfl ⟨A3, D3, c3, e3, rfl, ?_, ?_, .inr ⟨f3.mono (by have := bf.size; omega), g3.mono (by have := bf.size; omega)⟩⟩
  · exact CoR.al (CoR.sets (CoR.sets (CoR.sets (CoR.sets (CoR.sets (CoR.sets (CoR.sets (CoR.sets r3 f3 g3 (by omega) _) f3 g3 (by omega) _) f3 g3 (by omega) _) f3 g3 (by omega) _) f3 g3 (by omega) _) f3 g3 (by omega) _) f3 g3 (by omega) _) f3 g3 (by omega) _) _
  · exact bal (bset (bset (bset (bset (bset (bset (bset (bset bg (by omega) _) (by omega) _) (by omega) _) (by omega) _) (by omega) _) (by omega) _) (by omega) _) (by omega) _) _

set_option maxRecDepth 100000 in
set_option maxHeartbeats 1000000 in
theorem Tick_hi (c : Co) (A1 D1 : Option Addr) (c1 e1 : Nat) (w : World) (h1 : CoR w w.heap.size c A1 D1) (hm : mayB c = true) (hst : c.st = 2) (hlim : 1048576 ≤ c.ag) :
    Calls Tryd.prog 25 #[(.agg #[.int .i8 c.st, .int .i64 c.pid, .int .i64 c.ep, .int .i64 c.tm, .int .i64 c.th, .slice A1 c.ps.length c1, .slice D1 c.qs.length e1, .int .i64 c.ag])] w (CoPost (tickC c) A1 D1 w) := by
  have hag := range_ag (may_range hm (by omega))
  have ht : tickC c = { c with ag := 1048576 } := by
    unfold tickC
    rw [if_pos ⟨hm, hst⟩]
    rw [if_neg (by omega)]
    congr 1
    omega
  rw [ht]
  have h2 := (h1.al (.cells #[.int .i8 c.st, .int .i64 c.pid, .int .i64 c.ep, .int .i64 c.tm, .int .i64 c.th, .slice A1 c.ps.length c1, .slice D1 c.qs.length e1, .int .i64 c.ag] 26)).al (.cells #[.int .i8 0, .int .i64 0, .int .i64 0, .int .i64 0, .int .i64 0, .slice none 0 0, .slice none 0 0, .int .i64 0] 26)
  have hc := check_any c A1 D1 c1 e1 4 true _ _ h2 (Nat.le_refl _)
  have HC := Lib.hid hc
  have HYES := Lib.hid (chk_tick hm hst)
  have HB := Lib.hid (bal (bal (Below.refl w.heap.size w) (.cells #[.int .i8 c.st, .int .i64 c.pid, .int .i64 c.ep, .int .i64 c.tm, .int .i64 c.th, .slice A1 c.ps.length c1, .slice D1 c.qs.length e1, .int .i64 c.ag] 26)) (.cells #[.int .i8 0, .int .i64 0, .int .i64 0, .int .i64 0, .int .i64 0, .slice none 0 0, .slice none 0 0, .int .i64 0] 26))
  have K1 := Lib.hid ((Blk.new w 26 #[.int .i8 c.st, .int .i64 c.pid, .int .i64 c.ep, .int .i64 c.tm, .int .i64 c.th, .slice A1 c.ps.length c1, .slice D1 c.qs.length e1, .int .i64 c.ag]).alloc (.cells #[.int .i8 0, .int .i64 0, .int .i64 0, .int .i64 0, .int .i64 0, .slice none 0 0, .slice none 0 0, .int .i64 0] 26))
  have kk := Blk.new (w.alloc (.cells #[.int .i8 c.st, .int .i64 c.pid, .int .i64 c.ep, .int .i64 c.tm, .int .i64 c.th, .slice A1 c.ps.length c1, .slice D1 c.qs.length e1, .int .i64 c.ag] 26)) 26 #[.int .i8 0, .int .i64 0, .int .i64 0, .int .i64 0, .int .i64 0, .slice none 0 0, .slice none 0 0, .int .i64 0]
  rw [World.size_alloc] at kk
  have K2 := Lib.hid kk
  have H1 := Lib.hid h1
  have a1 := hag.1
  have a2 := hag.2
  clear h2 hc kk h1 ht hst hm hag
  go_enter Tryd.func25, Tryd.ntmps25
  go_wp2_with fail
  refine HC.out.mono ?_
  rintro e w2 ⟨b2, hres⟩
  obtain rfl : e = .returned .nilIface := by
    rcases hres with ⟨_, h⟩ | ⟨hz, _⟩
    · exact h
    · exact absurd HYES.out hz
  clear hres
  have hz2 := b2.size
  simp only [World.size_alloc] at hz2
  have k5 := K1.out.below b2 (by simp only [World.size_alloc]; omega)
  have k6 := K2.out.below b2 (by simp only [World.size_alloc]; omega)
  have x0 := k5.cell 0
  have x1 := k5.cell 1
  have x2 := k5.cell 2
  have x3 := k5.cell 3
  have x4 := k5.cell 4
  have x5 := k5.cell 5
  have x6 := k5.cell 6
  have x7 := k5.cell 7
  have y0 := k6.cell 0
  have z0 := k6.frozen 0
  have y1 := k6.cell 1
  have z1 := k6.frozen 1
  have y2 := k6.cell 2
  have z2 := k6.frozen 2
  have y3 := k6.cell 3
  have z3 := k6.frozen 3
  have y4 := k6.cell 4
  have z4 := k6.frozen 4
  have y5 := k6.cell 5
  have z5 := k6.frozen 5
  have y6 := k6.cell 6
  have z6 := k6.frozen 6
  have y7 := k6.cell 7
  have z7 := k6.frozen 7
  have bf := btrans HB.out b2
  have HOWN := Lib.hid (own_any c A1 D1 c1 e1 w2 (H1.out.up bf))
  go_wp2_with fail
  refine HOWN.out.mono ?_
  rintro e w3 ⟨A3, D3, c3, e3, rfl, r3, b3, f3, g3⟩
  have k7 := k6.below b3 (by omega)
  have hz3 := b3.size
  have hlt3 : w.heap.size + 1 < w3.heap.size := by omega
  have hne3 : ¬ w.heap.size + 1 = w3.heap.size := by omega
  have p0 := k7.cell 0
  have q0 := k7.frozen 0
  have p1 := k7.cell 1
  have q1 := k7.frozen 1
  have p2 := k7.cell 2
  have q2 := k7.frozen 2
  have p3 := k7.cell 3
  have q3 := k7.frozen 3
  have p4 := k7.cell 4
  have q4 := k7.frozen 4
  have p5 := k7.cell 5
  have q5 := k7.frozen 5
  have p6 := k7.cell 6
  have q6 := k7.frozen 6
  have p7 := k7.cell 7
  have q7 := k7.frozen 7
  have bg := btrans bf b3
  clear x0 x1 x2 x3 x4 x5 x6 x7 k5 k6
  go_wp2_with fail
  refine bodyPost_ret (v := .agg #[.int .i8 c.st, .int .i64 c.pid, .int .i64 c.ep, .int .i64 c.tm, .int .i64 c.th, .slice A3 c.ps.length c3, .slice D3 c.qs.length e3, .int .i64 1048576]) (by simp [results, Tryd.results25, go_sem, p0, p1, p2, p3, p4, p5, p6, p7, hlt3, hne3]) rfl ⟨A3, D3, c3, e3, rfl, ?_, ?_, .inr ⟨f3.mono (by have := bf.size; omega), g3.mono (by have := bf.size; omega)⟩⟩
  · exact CoR.al (CoR.sets (CoR.sets (CoR.sets (CoR.sets (CoR.sets (CoR.sets (CoR.sets (CoR.sets r3 f3 g3 (by omega) _) f3 g3 (by omega) _) f3 g3 (by omega) _) f3 g3 (by omega) _) f3 g3 (by omega) _) f3 g3 (by omega) _) f3 g3 (by omega) _) f3 g3 (by omega) _) _
  · exact bal (bset (bset (bset (bset (bset (bset (bset (bset bg (by omega) _) (by omega) _) (by omega) _) (by omega) _) (by omega) _) (by omega) _) (by omega) _) (by omega) _) _

end Go.Proofs.YtagclnmchkgpdaaDoor
