/-
  Layer 18: a tick, of the program and of the document.
  Layer 18: a copy of a transactional id; a tick.
  Layer 18: begins, check, a tick.
-/
import Derived.Test.YtagclnmchkgpdaaGrp07
set_option linter.unusedVariables false
set_option linter.unusedSimpArgs false
namespace Go.Proofs.Ytagclnmchkgpdaa
open Go.RowKit

/-- A transactional id that is returned: its lists are those that came in, or new. -/
def CoPost (d : Co) (A D : Option Addr) (w : World) (e : Ending) (w' : World) : Prop :=
  ∃ (A1 D1 : Option Addr) (c1 e1 : Nat), e = .returned (.agg #[.int .i8 d.st, .int .i64 d.pid, .int .i64 d.ep, .int .i64 d.tm, .int .i64 d.th, .slice A1 d.ps.length c1, .slice D1 d.qs.length e1, .int .i64 d.ag]) ∧ CoR w' w'.heap.size d A1 D1 ∧ Below w.heap.size w w' ∧ ((A1 = A ∧ D1 = D) ∨ (NewAt w.heap.size d.ps.length A1 ∧ NewAt w.heap.size d.qs.length D1))
/-- .. they are new. -/
def CoNew (d : Co) (w : World) (e : Ending) (w' : World) : Prop :=
  ∃ (A1 D1 : Option Addr) (c1 e1 : Nat), e = .returned (.agg #[.int .i8 d.st, .int .i64 d.pid, .int .i64 d.ep, .int .i64 d.tm, .int .i64 d.th, .slice A1 d.ps.length c1, .slice D1 d.qs.length e1, .int .i64 d.ag]) ∧ CoR w' w'.heap.size d A1 D1 ∧ Below w.heap.size w w' ∧ NewAt w.heap.size d.ps.length A1 ∧ NewAt w.heap.size d.qs.length D1

set_option maxRecDepth 100000 in
set_option maxHeartbeats 1000000 in
theorem own_any (c : Co) (A1 D1 : Option Addr) (c1 e1 : Nat) (w : World) (h1 : CoR w w.heap.size c A1 D1) :
    Calls Try.prog 49 #[(.agg #[.int .i8 c.st, .int .i64 c.pid, .int .i64 c.ep, .int .i64 c.tm, .int .i64 c.th, .slice A1 c.ps.length c1, .slice D1 c.qs.length e1, .int .i64 c.ag])] w (CoNew c w) := by
  have hps := h1.2.2.1
  have hqs := h1.2.2.2
  have h2 := (h1.al (.cells #[.int .i8 c.st, .int .i64 c.pid, .int .i64 c.ep, .int .i64 c.tm, .int .i64 c.th, .slice A1 c.ps.length c1, .slice D1 c.qs.length e1, .int .i64 c.ag] 26)).al (.cells #[.int .i8 0, .int .i64 0, .int .i64 0, .int .i64 0, .int .i64 0, .slice none 0 0, .slice none 0 0, .int .i64 0] 26)
  have HC := Lib.hid (CloneI_any A1 c.ps c1 _ h2.1 (by omega))
  have H2 := Lib.hid h2
  have K1 := Lib.hid ((Blk.new w 26 #[.int .i8 c.st, .int .i64 c.pid, .int .i64 c.ep, .int .i64 c.tm, .int .i64 c.th, .slice A1 c.ps.length c1, .slice D1 c.qs.length e1, .int .i64 c.ag]).alloc (.cells #[.int .i8 0, .int .i64 0, .int .i64 0, .int .i64 0, .int .i64 0, .slice none 0 0, .slice none 0 0, .int .i64 0] 26))
  have kk := Blk.new (w.alloc (.cells #[.int .i8 c.st, .int .i64 c.pid, .int .i64 c.ep, .int .i64 c.tm, .int .i64 c.th, .slice A1 c.ps.length c1, .slice D1 c.qs.length e1, .int .i64 c.ag] 26)) 26 #[.int .i8 0, .int .i64 0, .int .i64 0, .int .i64 0, .int .i64 0, .slice none 0 0, .slice none 0 0, .int .i64 0]
  rw [World.size_alloc] at kk
  have K2 := Lib.hid kk
  have HB := Lib.hid (bal (bal (Below.refl w.heap.size w) (.cells #[.int .i8 c.st, .int .i64 c.pid, .int .i64 c.ep, .int .i64 c.tm, .int .i64 c.th, .slice A1 c.ps.length c1, .slice D1 c.qs.length e1, .int .i64 c.ag] 26)) (.cells #[.int .i8 0, .int .i64 0, .int .i64 0, .int .i64 0, .int .i64 0, .slice none 0 0, .slice none 0 0, .int .i64 0] 26))
  have Q1 := Lib.hid h1.2.1
  clear h1 h2 kk
  go_enter Try.func49, Try.ntmps49
  go_wp2_with fail
  refine HC.out.mono ?_
  rintro e w2 ⟨A2, c2, rfl, r2, hc2, b2, f2⟩
  have hz2 := b2.size
  simp only [World.size_alloc] at hz2
  have k1 := K1.out.below b2 (by simp only [World.size_alloc]; omega)
  have k2 := K2.out.below b2 (by simp only [World.size_alloc]; omega)
  have u1 := k1.cell 5
  have u2 := k1.frozen 5
  have u3 := k1.cell 6
  go_wp2_with fail
  clear u1 u2 u3
  have k3 := k1.set_ 5 (.slice A2 c.ps.length c2)
  have k4 := k2.far (p := ⟨w.heap.size, 5, none⟩) (by simp) (.slice A2 c.ps.length c2)
  have b3 : Below w.heap.size w (w2.setCell ⟨w.heap.size, 5, none⟩ (.slice A2 c.ps.length c2)) := bset (btrans HB.out b2) (Nat.le_refl _) _
  have rr : Reads (w2.setCell ⟨w.heap.size, 5, none⟩ (.slice A2 c.ps.length c2)) w.heap.size 3 D1 c.qs.length (cellsP c.qs) := Q1.out.below b3
  simp only [World.size_alloc] at f2
  have r3 := r2.away f2 (p := ⟨w.heap.size, 5, none⟩) (by simp only; omega) (.slice A2 c.ps.length c2)
  have hle := b2.size
  generalize hw3 : w2.setCell ⟨w.heap.size, 5, none⟩ (.slice A2 c.ps.length c2) = w3 at *
  have hz3 : w.heap.size + 2 ≤ w3.heap.size := by rw [← hw3]; simpa [World.setCell] using hz2
  refine (CloneP_any D1 c.qs e1 w3 (rr.more b3.size) (by omega)).mono ?_
  rintro e w4 ⟨A4, c4, rfl, r4, hc4, b4, f4⟩
  have r5 := (r3.below (b4.mono (by rw [← hw3]; simp [World.setCell])))
  have k5 := k3.below b4 (by omega)
  have k6 := k4.below b4 (by omega)
  have x1 := k5.cell 0
  have x2 := k5.cell 1
  have x3 := k5.cell 2
  have x4 := k5.cell 3
  have x5 := k5.cell 4
  have x6 := k5.cell 5
  have x7 := k5.cell 6
  have x8 := k5.cell 7
  have x9 := k5.frozen 6
  have y0 := k6.cell 0
  have y1 := k6.cell 1
  have y2 := k6.cell 2
  have y3 := k6.cell 3
  have y4 := k6.cell 4
  have y5 := k6.cell 5
  have y6 := k6.cell 6
  have y7 := k6.cell 7
  have z0 := k6.frozen 0
  have z1 := k6.frozen 1
  have z2 := k6.frozen 2
  have z3 := k6.frozen 3
  have z4 := k6.frozen 4
  have z5 := k6.frozen 5
  have z6 := k6.frozen 6
  have z7 := k6.frozen 7
  go_wp2_with fail
  refine bodyPost_ret (v := .agg #[.int .i8 c.st, .int .i64 c.pid, .int .i64 c.ep, .int .i64 c.tm, .int .i64 c.th, .slice A2 c.ps.length c2, .slice A4 c.qs.length c4, .int .i64 c.ag]) (by simp [results, Try.results49, go_sem, y0, y1, y2, y3, y4, y5, y6, y7]) rfl ⟨A2, A4, c2, c4, rfl, ⟨?_, ?_, hps, hqs⟩, ?_, f2.mono (by omega), f4.mono (by have := b3.size; omega)⟩
  · have hs : w2.heap.size ≤ w4.heap.size := by
      have h1 := b4.size
      have h2 : w3.heap.size = w2.heap.size := by rw [← hw3]; simp [World.setCell]
      omega
    have q0 := r5.away f2 (p := ⟨w.heap.size, 6, none⟩) (by simp only; omega) (.slice A4 c.qs.length c4)
    have q1 := q0.away f2 (p := ⟨w.heap.size + 1, 0, none⟩) (by simp only; omega) (.int .i8 c.st)
    have q2 := q1.away f2 (p := ⟨w.heap.size + 1, 1, none⟩) (by simp only; omega) (.int .i64 c.pid)
    have q3 := q2.away f2 (p := ⟨w.heap.size + 1, 2, none⟩) (by simp only; omega) (.int .i64 c.ep)
    have q4 := q3.away f2 (p := ⟨w.heap.size + 1, 3, none⟩) (by simp only; omega) (.int .i64 c.tm)
    have q5 := q4.away f2 (p := ⟨w.heap.size + 1, 4, none⟩) (by simp only; omega) (.int .i64 c.th)
    have q6 := q5.away f2 (p := ⟨w.heap.size + 1, 5, none⟩) (by simp only; omega) (.slice A2 c.ps.length c2)
    have q7 := q6.away f2 (p := ⟨w.heap.size + 1, 6, none⟩) (by simp only; omega) (.slice A4 c.qs.length c4)
    have q8 := q7.away f2 (p := ⟨w.heap.size + 1, 7, none⟩) (by simp only; omega) (.int .i64 c.ag)
    exact q8.more (by simpa [World.setCell] using hs)
  · have q0 := r4.away f4 (p := ⟨w.heap.size, 6, none⟩) (by simp only; omega) (.slice A4 c.qs.length c4)
    have q1 := q0.away f4 (p := ⟨w.heap.size + 1, 0, none⟩) (by simp only; omega) (.int .i8 c.st)
    have q2 := q1.away f4 (p := ⟨w.heap.size + 1, 1, none⟩) (by simp only; omega) (.int .i64 c.pid)
    have q3 := q2.away f4 (p := ⟨w.heap.size + 1, 2, none⟩) (by simp only; omega) (.int .i64 c.ep)
    have q4 := q3.away f4 (p := ⟨w.heap.size + 1, 3, none⟩) (by simp only; omega) (.int .i64 c.tm)
    have q5 := q4.away f4 (p := ⟨w.heap.size + 1, 4, none⟩) (by simp only; omega) (.int .i64 c.th)
    have q6 := q5.away f4 (p := ⟨w.heap.size + 1, 5, none⟩) (by simp only; omega) (.slice A2 c.ps.length c2)
    have q7 := q6.away f4 (p := ⟨w.heap.size + 1, 6, none⟩) (by simp only; omega) (.slice A4 c.qs.length c4)
    have q8 := q7.away f4 (p := ⟨w.heap.size + 1, 7, none⟩) (by simp only; omega) (.int .i64 c.ag)
    exact q8.more (by simp [World.setCell])
  · exact bset (bset (bset (bset (bset (bset (bset (bset (bset (btrans b3 b4) (Nat.le_refl _) _) (by omega) _) (by omega) _) (by omega) _) (by omega) _) (by omega) _) (by omega) _) (by omega) _) (by omega) _
end Go.Proofs.Ytagclnmchkgpdaa
namespace Go.Proofs.Ytagclnmchkgpdaa
open Go.RowKit

def beginsB (st mv : Int) : Bool :=
  if st = 0 then mv == 0
  else if st = 2 then ((mv == 1) || (mv == 2)) || (mv == 4)
  else if st = 1 ∨ st = 5 ∨ st = 6 then ((mv == 0) || (mv == 1)) || (mv == 2)
  else if st = 3 ∨ st = 4 then mv == 3
  else false

set_option maxRecDepth 100000 in
set_option maxHeartbeats 1000000 in
theorem begins_any (st mv : Int) (w : World) : Calls Try.prog 56 #[.int .i8 st, .int .i8 mv] w fun e w' => e = .returned (.bool (beginsB st mv)) ∧ w = w' := by
  have h : st = 0 ∨ st = 2 ∨ st = 1 ∨ st = 5 ∨ st = 6 ∨ st = 3 ∨ st = 4 ∨ (st < 0 ∨ 6 < st) := by omega
  rcases h with rfl | rfl | rfl | rfl | rfl | rfl | rfl | h
  · go_enter Try.func56, Try.ntmps56
    go_wp2
    all_goals (go_ret; exact ⟨ret_bool (by unfold beginsB; simp [*]), rfl⟩)
  · go_enter Try.func56, Try.ntmps56
    go_wp2
    all_goals (go_ret; exact ⟨ret_bool (by unfold beginsB; simp [*]), rfl⟩)
  · go_enter Try.func56, Try.ntmps56
    go_wp2
    all_goals (go_ret; exact ⟨ret_bool (by unfold beginsB; simp [*]), rfl⟩)
  · go_enter Try.func56, Try.ntmps56
    go_wp2
    all_goals (go_ret; exact ⟨ret_bool (by unfold beginsB; simp [*]), rfl⟩)
  · go_enter Try.func56, Try.ntmps56
    go_wp2
    all_goals (go_ret; exact ⟨ret_bool (by unfold beginsB; simp [*]), rfl⟩)
  · go_enter Try.func56, Try.ntmps56
    go_wp2
    all_goals (go_ret; exact ⟨ret_bool (by unfold beginsB; simp [*]), rfl⟩)
  · go_enter Try.func56, Try.ntmps56
    go_wp2
    all_goals (go_ret; exact ⟨ret_bool (by unfold beginsB; simp [*]), rfl⟩)
  · have d0 : (st == 0) = false := eqb_false (by omega)
    have d1 : (st == 1) = false := eqb_false (by omega)
    have d2 : (st == 2) = false := eqb_false (by omega)
    have d3 : (st == 3) = false := eqb_false (by omega)
    have d4 : (st == 4) = false := eqb_false (by omega)
    have d5 : (st == 5) = false := eqb_false (by omega)
    have d6 : (st == 6) = false := eqb_false (by omega)
    have hs : beginsB st mv = false := by
      unfold beginsB
      rw [if_neg (by omega), if_neg (by omega), if_neg (by omega), if_neg (by omega)]
    have HS := Lib.hid hs
    clear hs h
    go_enter Try.func56, Try.ntmps56
    go_wp2
    go_ret
    exact ⟨ret_bool HS.out.symm, rfl⟩

/-- The code of what check says; 0: nothing is wrong. -/
noncomputable def chkE (c : Co) (mv : Int) (fit : Bool) : Int := if fit = false ∨ mayB c = false then 2 else if beginsB c.st mv = false then 180 else 0
/-- A fault with its code. -/
def FaultAt (code : Int) (w : World) (e : Ending) (w' : World) : Prop :=
  ∃ b, e = .returned (.iface 68 (.pointer (some ⟨b, 0, none⟩))) ∧ w'.cell? ⟨b, 1, none⟩ = some (.int .i64 code) ∧ w.heap.size ≤ b ∧ b < w'.heap.size
def ChkPost (c : Co) (mv : Int) (fit : Bool) (w : World) (e : Ending) (w' : World) : Prop :=
  Below w.heap.size w w' ∧ ((chkE c mv fit = 0 ∧ e = .returned .nilIface) ∨ (¬ chkE c mv fit = 0 ∧ FaultAt (chkE c mv fit) w e w'))

set_option maxRecDepth 100000 in
set_option maxHeartbeats 1000000 in
theorem check_any (c : Co) (A1 D1 : Option Addr) (c1 e1 : Nat) (mv : Int) (fit : Bool) (B : Nat) (w : World) (h1 : CoR w B c A1 D1) (hB : B ≤ w.heap.size) :
    Calls Try.prog 48 #[(.agg #[.int .i8 c.st, .int .i64 c.pid, .int .i64 c.ep, .int .i64 c.tm, .int .i64 c.th, .slice A1 c.ps.length c1, .slice D1 c.qs.length e1, .int .i64 c.ag]), .int .i8 mv, .bool fit] w (ChkPost c mv fit w) := by
  have HB := Lib.hid (fun x => bal (Below.refl w.heap.size w) x)
  have HB2 := Lib.hid (fun x y => bal (bal (Below.refl w.heap.size w) x) y)
  have HM := Lib.hid (fun x => May_any c A1 D1 c1 e1 B (w.alloc x) (h1.below (((Below.refl w.heap.size w).alloc (Nat.le_refl _) x).mono hB)) (by simp; omega))
  have KN := fun (W : World) (v : Value) (code : Int) => (Blk.new W 71 #[v, .int .i64 code]).cell 1
  have HKN := Lib.hid KN
  have KC := Lib.hid (Blk.new w 26 #[.int .i8 c.st, .int .i64 c.pid, .int .i64 c.ep, .int .i64 c.tm, .int .i64 c.th, .slice A1 c.ps.length c1, .slice D1 c.qs.length e1, .int .i64 c.ag])
  clear KN h1
  cases fit
  · have hc : chkE c mv false = 2 := by unfold chkE; simp
    have HCC := Lib.hid hc
    clear hc
    go_enter Try.func48, Try.ntmps48
    go_wp2_with fail
    go_ret
    refine ⟨HB2.out _ _, .inr ⟨by rw [HCC.out]; decide, ?_⟩⟩
    rw [HCC.out]
    refine ⟨_, rfl, ?_, by omega, by simp⟩
    have h := HKN.out (w.alloc (.cells #[.int .i8 c.st, .int .i64 c.pid, .int .i64 c.ep, .int .i64 c.tm, .int .i64 c.th, .slice A1 c.ps.length c1, .slice D1 c.qs.length e1, .int .i64 c.ag] 26)) (.string ⟨#[97, 110, 32, 97, 114, 103, 117, 109, 101, 110, 116]⟩) 2
    rw [World.size_alloc] at h
    exact h
  · cases hm : mayB c
    · have hc : chkE c mv true = 2 := by unfold chkE; simp [hm]
      have HCC := Lib.hid hc
      rw [hm] at HM
      clear hc hm
      go_enter Try.func48, Try.ntmps48
      go_wp2_with (go_at_call 36; refine (HM.out _).mono ?_; rintro e w1 ⟨rfl, b1⟩)
      go_ret
      have bb := btrans (HB.out _) b1
      have hz := b1.size
      rw [World.size_alloc] at hz
      refine ⟨bal bb _, .inr ⟨by rw [HCC.out]; decide, ?_⟩⟩
      rw [HCC.out]
      exact ⟨_, rfl, HKN.out w1 (.string ⟨#[97, 110, 32, 97, 114, 103, 117, 109, 101, 110, 116]⟩) 2, by omega, by simp⟩
    · rw [hm] at HM
      have HBG := Lib.hid (fun W => begins_any c.st mv W)
      cases hg : beginsB c.st mv
      · have hc : chkE c mv true = 180 := by unfold chkE; simp [hm, hg]
        have HCC := Lib.hid hc
        rw [hg] at HBG
        clear hc hm hg
        go_enter Try.func48, Try.ntmps48
        go_wp2_with (go_at_call 36; refine (HM.out _).mono ?_; rintro e w1 ⟨rfl, b1⟩; have g0 := (KC.out.below b1 (by simp)).cell 0)
        refine (HBG.out _).mono ?_
        rintro e w2 ⟨rfl, rfl⟩
        go_wp2_with fail
        go_ret
        have bb := btrans (HB.out _) b1
        have hz := b1.size
        rw [World.size_alloc] at hz
        refine ⟨bal bb _, .inr ⟨by rw [HCC.out]; decide, ?_⟩⟩
        rw [HCC.out]
        exact ⟨_, rfl, HKN.out w1 (.string ⟨#[97, 32, 115, 116, 97, 116, 101]⟩) 180, by omega, by simp⟩
      · have hc : chkE c mv true = 0 := by unfold chkE; simp [hm, hg]
        have HCC := Lib.hid hc
        rw [hg] at HBG
        clear hc hm hg
        go_enter Try.func48, Try.ntmps48
        go_wp2_with (go_at_call 36; refine (HM.out _).mono ?_; rintro e w1 ⟨rfl, b1⟩; have g0 := (KC.out.below b1 (by simp)).cell 0)
        refine (HBG.out _).mono ?_
        rintro e w2 ⟨rfl, rfl⟩
        go_wp2_with fail
        go_ret
        exact ⟨btrans (HB.out _) b1, .inl ⟨HCC.out, rfl⟩⟩
end Go.Proofs.Ytagclnmchkgpdaa
namespace Go.Proofs.Ytagclnmchkgpdaa
open Go.RowKit

theorem CoR.sets {w : World} {c : Co} {A D : Option Addr} {lo : Nat} (h : CoR w w.heap.size c A D) (f : NewAt lo c.ps.length A) (g : NewAt lo c.qs.length D) {b o : Nat} (hb : b < lo) (u : Value) : CoR (w.setCell ⟨b, o, none⟩ u) (w.setCell ⟨b, o, none⟩ u).heap.size c A D := by
  have hs : (w.setCell ⟨b, o, none⟩ u).heap.size = w.heap.size := by simp [World.setCell]
  rw [hs]
  exact ⟨h.1.away f hb u, h.2.1.away g hb u, h.2.2⟩

noncomputable def tickC (c : Co) : Co := if mayB c = true ∧ c.st = 2 then { c with ag := if c.ag < 1048576 then c.ag + 1 else c.ag } else c

theorem range_ag {c : Co} (h : rangeB c = true) : 0 ≤ c.ag ∧ c.ag ≤ 1048576 := by
  unfold rangeB at h
  simp only [Bool.and_eq_true, decide_eq_true_eq] at h
  omega
theorem may_range {c : Co} (h : mayB c = true) (h0 : ¬ c.st = 0) : rangeB c = true := by
  unfold mayB at h
  rw [if_neg h0] at h
  split at h
  · unfold tailB at h; simp only [Bool.and_eq_true] at h; exact h.2.2.2
  · split at h
    · unfold tailB at h; simp only [Bool.and_eq_true] at h; exact h.2.2
    · split at h
      · unfold tailB at h; simp only [Bool.and_eq_true] at h; exact h.2
      · split at h
        · unfold idleB at h; simp only [Bool.and_eq_true] at h; exact h.2.2.2.2
        · cases h
theorem begins_tick (st : Int) : beginsB st 4 = true ↔ st = 2 := by
  unfold beginsB
  split
  · simp; omega
  · split
    · simp [*]
    · split
      · simp; omega
      · split
        · simp; omega
        · simp; omega
theorem chk_tick {c : Co} (h : mayB c = true) (h2 : c.st = 2) : chkE c 4 true = 0 := by
  unfold chkE
  rw [if_neg (by simp [h]), if_neg (by rw [(begins_tick c.st).2 h2]; simp)]
theorem chk_tick_no {c : Co} (h : ¬ (mayB c = true ∧ c.st = 2)) : ¬ chkE c 4 true = 0 := by
  unfold chkE
  by_cases hm : mayB c = true
  · have h2 : ¬ c.st = 2 := fun x => h ⟨hm, x⟩
    have hb : beginsB c.st 4 = false := by
      cases hb : beginsB c.st 4
      · rfl
      · exact absurd ((begins_tick c.st).1 hb) h2
    rw [if_neg (by simp [hm]), if_pos hb]; decide
  · rw [if_pos (.inr (by simpa using hm))]; decide

set_option maxRecDepth 100000 in
set_option maxHeartbeats 1000000 in
theorem Tick_no (c : Co) (A1 D1 : Option Addr) (c1 e1 : Nat) (w : World) (h1 : CoR w w.heap.size c A1 D1) (hno : ¬ (mayB c = true ∧ c.st = 2)) :
    Calls Try.prog 38 #[(.agg #[.int .i8 c.st, .int .i64 c.pid, .int .i64 c.ep, .int .i64 c.tm, .int .i64 c.th, .slice A1 c.ps.length c1, .slice D1 c.qs.length e1, .int .i64 c.ag])] w (CoPost (tickC c) A1 D1 w) := by
  have ht : tickC c = c := by unfold tickC; rw [if_neg hno]
  rw [ht]
  have h2 := (h1.al (.cells #[.int .i8 c.st, .int .i64 c.pid, .int .i64 c.ep, .int .i64 c.tm, .int .i64 c.th, .slice A1 c.ps.length c1, .slice D1 c.qs.length e1, .int .i64 c.ag] 26)).al (.cells #[.int .i8 0, .int .i64 0, .int .i64 0, .int .i64 0, .int .i64 0, .slice none 0 0, .slice none 0 0, .int .i64 0] 26)
  have hc := check_any c A1 D1 c1 e1 4 true _ _ h2 (Nat.le_refl _)
  have HC := Lib.hid hc
  have HNO := Lib.hid (chk_tick_no hno)
  have HB := Lib.hid (bal (bal (Below.refl w.heap.size w) (.cells #[.int .i8 c.st, .int .i64 c.pid, .int .i64 c.ep, .int .i64 c.tm, .int .i64 c.th, .slice A1 c.ps.length c1, .slice D1 c.qs.length e1, .int .i64 c.ag] 26)) (.cells #[.int .i8 0, .int .i64 0, .int .i64 0, .int .i64 0, .int .i64 0, .slice none 0 0, .slice none 0 0, .int .i64 0] 26))
  have K1 := Lib.hid ((Blk.new w 26 #[.int .i8 c.st, .int .i64 c.pid, .int .i64 c.ep, .int .i64 c.tm, .int .i64 c.th, .slice A1 c.ps.length c1, .slice D1 c.qs.length e1, .int .i64 c.ag]).alloc (.cells #[.int .i8 0, .int .i64 0, .int .i64 0, .int .i64 0, .int .i64 0, .slice none 0 0, .slice none 0 0, .int .i64 0] 26))
  have kk := Blk.new (w.alloc (.cells #[.int .i8 c.st, .int .i64 c.pid, .int .i64 c.ep, .int .i64 c.tm, .int .i64 c.th, .slice A1 c.ps.length c1, .slice D1 c.qs.length e1, .int .i64 c.ag] 26)) 26 #[.int .i8 0, .int .i64 0, .int .i64 0, .int .i64 0, .int .i64 0, .slice none 0 0, .slice none 0 0, .int .i64 0]
  rw [World.size_alloc] at kk
  have K2 := Lib.hid kk
  have H1 := Lib.hid h1
  clear h2 hc kk h1 ht hno
  go_enter Try.func38, Try.ntmps38
  go_wp2_with fail
  refine HC.out.mono ?_
  rintro e w2 ⟨b2, hres⟩
  rcases hres with ⟨hz, _⟩ | ⟨_, b, rfl, _, _, _⟩
  · exact absurd hz HNO.out
  have hz2 := b2.size
  simp only [World.size_alloc] at hz2
  have k5 := K1.out.below b2 (by simp only [World.size_alloc]; omega)
  have k6 := K2.out.below b2 (by simp only [World.size_alloc]; omega)
  have x0 := k5.cell 0
  have x1 := k5.cell 1
  have x2 := k5.cell 2
  have x3 := k5.cell 3
  have x4 := k5.cell 4
  have x5 := k5.cell 5
  have x6 := k5.cell 6
  have x7 := k5.cell 7
  have y0 := k6.cell 0
  have z0 := k6.frozen 0
  have y1 := k6.cell 1
  have z1 := k6.frozen 1
  have y2 := k6.cell 2
  have z2 := k6.frozen 2
  have y3 := k6.cell 3
  have z3 := k6.frozen 3
  have y4 := k6.cell 4
  have z4 := k6.frozen 4
  have y5 := k6.cell 5
  have z5 := k6.frozen 5
  have y6 := k6.cell 6
  have z6 := k6.frozen 6
  have y7 := k6.cell 7
  have z7 := k6.frozen 7
  have bf := btrans HB.out b2
  go_wp2_with fail
  refine bodyPost_ret (v := .agg #[.int .i8 c.st, .int .i64 c.pid, .int .i64 c.ep, .int .i64 c.tm, .int .i64 c.th, .slice A1 c.ps.length c1, .slice D1 c.qs.length e1, .int .i64 c.ag]) (by simp [results, Try.results38, go_sem, y0, y1, y2, y3, y4, y5, y6, y7]) rfl ⟨A1, D1, c1, e1, rfl, ?_, ?_, .inl ⟨rfl, rfl⟩⟩
  · exact H1.out.up (bset (bset (bset (bset (bset (bset (bset (bset bf (by omega) _) (by omega) _) (by omega) _) (by omega) _) (by omega) _) (by omega) _) (by omega) _) (by omega) _)
  · exact (bset (bset (bset (bset (bset (bset (bset (bset bf (by omega) _) (by omega) _) (by omega) _) (by omega) _) (by omega) _) (by omega) _) (by omega) _) (by omega) _)

set_option maxRecDepth 100000 in
set_option maxHeartbeats 1000000 in
theorem Tick_lo (c : Co) (A1 D1 : Option Addr) (c1 e1 : Nat) (w : World) (h1 : CoR w w.heap.size c A1 D1) (hm : mayB c = true) (hst : c.st = 2) (hlim : c.ag < 1048576) :
    Calls Try.prog 38 #[(.agg #[.int .i8 c.st, .int .i64 c.pid, .int .i64 c.ep, .int .i64 c.tm, .int .i64 c.th, .slice A1 c.ps.length c1, .slice D1 c.qs.length e1, .int .i64 c.ag])] w (CoPost (tickC c) A1 D1 w) := by
  have hag := range_ag (may_range hm (by omega))
  have ht : tickC c = { c with ag := c.ag + 1 } := by
    unfold tickC
    rw [if_pos ⟨hm, hst⟩]
    rw [if_pos hlim]
  rw [ht]
  have h2 := (h1.al (.cells #[.int .i8 c.st, .int .i64 c.pid, .int .i64 c.ep, .int .i64 c.tm, .int .i64 c.th, .slice A1 c.ps.length c1, .slice D1 c.qs.length e1, .int .i64 c.ag] 26)).al (.cells #[.int .i8 0, .int .i64 0, .int .i64 0, .int .i64 0, .int .i64 0, .slice none 0 0, .slice none 0 0, .int .i64 0] 26)
  have hc := check_any c A1 D1 c1 e1 4 true _ _ h2 (Nat.le_refl _)
  have HC := Lib.hid hc
  have HYES := Lib.hid (chk_tick hm hst)
  have HB := Lib.hid (bal (bal (Below.refl w.heap.size w) (.cells #[.int .i8 c.st, .int .i64 c.pid, .int .i64 c.ep, .int .i64 c.tm, .int .i64 c.th, .slice A1 c.ps.length c1, .slice D1 c.qs.length e1, .int .i64 c.ag] 26)) (.cells #[.int .i8 0, .int .i64 0, .int .i64 0, .int .i64 0, .int .i64 0, .slice none 0 0, .slice none 0 0, .int .i64 0] 26))
  have K1 := Lib.hid ((Blk.new w 26 #[.int .i8 c.st, .int .i64 c.pid, .int .i64 c.ep, .int .i64 c.tm, .int .i64 c.th, .slice A1 c.ps.length c1, .slice D1 c.qs.length e1, .int .i64 c.ag]).alloc (.cells #[.int .i8 0, .int .i64 0, .int .i64 0, .int .i64 0, .int .i64 0, .slice none 0 0, .slice none 0 0, .int .i64 0] 26))
  have kk := Blk.new (w.alloc (.cells #[.int .i8 c.st, .int .i64 c.pid, .int .i64 c.ep, .int .i64 c.tm, .int .i64 c.th, .slice A1 c.ps.length c1, .slice D1 c.qs.length e1, .int .i64 c.ag] 26)) 26 #[.int .i8 0, .int .i64 0, .int .i64 0, .int .i64 0, .int .i64 0, .slice none 0 0, .slice none 0 0, .int .i64 0]
  rw [World.size_alloc] at kk
  have K2 := Lib.hid kk
  have H1 := Lib.hid h1
  have a1 := hag.1
  have a2 := hag.2
  clear h2 hc kk h1 ht hst hm hag
  go_enter Try.func38, Try.ntmps38
  go_wp2_with fail
  refine HC.out.mono ?_
  rintro e w2 ⟨b2, hres⟩
  obtain rfl : e = .returned .nilIface := by
    rcases hres with ⟨_, h⟩ | ⟨hz, _⟩
    · exact h
    · exact absurd HYES.out hz
  clear hres
  have hz2 := b2.size
  simp only [World.size_alloc] at hz2
  have k5 := K1.out.below b2 (by simp only [World.size_alloc]; omega)
  have k6 := K2.out.below b2 (by simp only [World.size_alloc]; omega)
  have x0 := k5.cell 0
  have x1 := k5.cell 1
  have x2 := k5.cell 2
  have x3 := k5.cell 3
  have x4 := k5.cell 4
  have x5 := k5.cell 5
  have x6 := k5.cell 6
  have x7 := k5.cell 7
  have y0 := k6.cell 0
  have z0 := k6.frozen 0
  have y1 := k6.cell 1
  have z1 := k6.frozen 1
  have y2 := k6.cell 2
  have z2 := k6.frozen 2
  have y3 := k6.cell 3
  have z3 := k6.frozen 3
  have y4 := k6.cell 4
  have z4 := k6.frozen 4
  have y5 := k6.cell 5
  have z5 := k6.frozen 5
  have y6 := k6.cell 6
  have z6 := k6.frozen 6
  have y7 := k6.cell 7
  have z7 := k6.frozen 7
  have bf := btrans HB.out b2
  have HOWN := Lib.hid (own_any c A1 D1 c1 e1 w2 (H1.out.up bf))
  go_wp2_with fail
  refine HOWN.out.mono ?_
  rintro e w3 ⟨A3, D3, c3, e3, rfl, r3, b3, f3, g3⟩
  have k7 := k6.below b3 (by omega)
  have hz3 := b3.size
  have hlt3 : w.heap.size + 1 < w3.heap.size := by omega
  have hne3 : ¬ w.heap.size + 1 = w3.heap.size := by omega
  have p0 := k7.cell 0
  have q0 := k7.frozen 0
  have p1 := k7.cell 1
  have q1 := k7.frozen 1
  have p2 := k7.cell 2
  have q2 := k7.frozen 2
  have p3 := k7.cell 3
  have q3 := k7.frozen 3
  have p4 := k7.cell 4
  have q4 := k7.frozen 4
  have p5 := k7.cell 5
  have q5 := k7.frozen 5
  have p6 := k7.cell 6
  have q6 := k7.frozen 6
  have p7 := k7.cell 7
  have q7 := k7.frozen 7
  have bg := btrans bf b3
  clear x0 x1 x2 x3 x4 x5 x6 x7 k5 k6
  go_wp2_with fail
  refine bodyPost_ret (v := .agg #[.int .i8 c.st, .int .i64 c.pid, .int .i64 c.ep, .int .i64 c.tm, .int .i64 c.th, .slice A3 c.ps.length c3, .slice D3 c.qs.length e3, .int .i64 (c.ag + 1)]) (by simp [results, Try.results38, go_sem, p0, p1, p2, p3, p4, p5, p6, p7, hlt3, hne3]) rfl ⟨A3, D3, c3, e3, rfl, ?_, ?_, .inr ⟨f3.mono (by have := bf.size; omega), g3.mono (by have := bf.size; omega)⟩⟩
  · exact CoR.al (CoR.sets (CoR.sets (CoR.sets (CoR.sets (CoR.sets (CoR.sets (CoR.sets (CoR.sets r3 f3 g3 (by omega) _) f3 g3 (by omega) _) f3 g3 (by omega) _) f3 g3 (by omega) _) f3 g3 (by omega) _) f3 g3 (by omega) _) f3 g3 (by omega) _) f3 g3 (by omega) _) _
  · exact bal (bset (bset (bset (bset (bset (bset (bset (bset bg (by omega) _) (by omega) _) (by omega) _) (by omega) _) (by omega) _) (by omega) _) (by omega) _) (by omega) _) _

set_option maxRecDepth 100000 in
set_option maxHeartbeats 1000000 in
theorem Tick_hi (c : Co) (A1 D1 : Option Addr) (c1 e1 : Nat) (w : World) (h1 : CoR w w.heap.size c A1 D1) (hm : mayB c = true) (hst : c.st = 2) (hlim : 1048576 ≤ c.ag) :
    Calls Try.prog 38 #[(.agg #[.int .i8 c.st, .int .i64 c.pid, .int .i64 c.ep, .int .i64 c.tm, .int .i64 c.th, .slice A1 c.ps.length c1, .slice D1 c.qs.length e1, .int .i64 c.ag])] w (CoPost (tickC c) A1 D1 w) := by
  have hag := range_ag (may_range hm (by omega))
  have ht : tickC c = { c with ag := 1048576 } := by
    unfold tickC
    rw [if_pos ⟨hm, hst⟩]
    rw [if_neg (by omega)]
    congr 1
    omega
  rw [ht]
  have h2 := (h1.al (.cells #[.int .i8 c.st, .int .i64 c.pid, .int .i64 c.ep, .int .i64 c.tm, .int .i64 c.th, .slice A1 c.ps.length c1, .slice D1 c.qs.length e1, .int .i64 c.ag] 26)).al (.cells #[.int .i8 0, .int .i64 0, .int .i64 0, .int .i64 0, .int .i64 0, .slice none 0 0, .slice none 0 0, .int .i64 0] 26)
  have hc := check_any c A1 D1 c1 e1 4 true _ _ h2 (Nat.le_refl _)
  have HC := Lib.hid hc
  have HYES := Lib.hid (chk_tick hm hst)
  have HB := Lib.hid (bal (bal (Below.refl w.heap.size w) (.cells #[.int .i8 c.st, .int .i64 c.pid, .int .i64 c.ep, .int .i64 c.tm, .int .i64 c.th, .slice A1 c.ps.length c1, .slice D1 c.qs.length e1, .int .i64 c.ag] 26)) (.cells #[.int .i8 0, .int .i64 0, .int .i64 0, .int .i64 0, .int .i64 0, .slice none 0 0, .slice none 0 0, .int .i64 0] 26))
  have K1 := Lib.hid ((Blk.new w 26 #[.int .i8 c.st, .int .i64 c.pid, .int .i64 c.ep, .int .i64 c.tm, .int .i64 c.th, .slice A1 c.ps.length c1, .slice D1 c.qs.length e1, .int .i64 c.ag]).alloc (.cells #[.int .i8 0, .int .i64 0, .int .i64 0, .int .i64 0, .int .i64 0, .slice none 0 0, .slice none 0 0, .int .i64 0] 26))
  have kk := Blk.new (w.alloc (.cells #[.int .i8 c.st, .int .i64 c.pid, .int .i64 c.ep, .int .i64 c.tm, .int .i64 c.th, .slice A1 c.ps.length c1, .slice D1 c.qs.length e1, .int .i64 c.ag] 26)) 26 #[.int .i8 0, .int .i64 0, .int .i64 0, .int .i64 0, .int .i64 0, .slice none 0 0, .slice none 0 0, .int .i64 0]
  rw [World.size_alloc] at kk
  have K2 := Lib.hid kk
  have H1 := Lib.hid h1
  have a1 := hag.1
  have a2 := hag.2
  clear h2 hc kk h1 ht hst hm hag
  go_enter Try.func38, Try.ntmps38
  go_wp2_with fail
  refine HC.out.mono ?_
  rintro e w2 ⟨b2, hres⟩
  obtain rfl : e = .returned .nilIface := by
    rcases hres with ⟨_, h⟩ | ⟨hz, _⟩
    · exact h
    · exact absurd HYES.out hz
  clear hres
  have hz2 := b2.size
  simp only [World.size_alloc] at hz2
  have k5 := K1.out.below b2 (by simp only [World.size_alloc]; omega)
  have k6 := K2.out.below b2 (by simp only [World.size_alloc]; omega)
  have x0 := k5.cell 0
  have x1 := k5.cell 1
  have x2 := k5.cell 2
  have x3 := k5.cell 3
  have x4 := k5.cell 4
  have x5 := k5.cell 5
  have x6 := k5.cell 6
  have x7 := k5.cell 7
  have y0 := k6.cell 0
  have z0 := k6.frozen 0
  have y1 := k6.cell 1
  have z1 := k6.frozen 1
  have y2 := k6.cell 2
  have z2 := k6.frozen 2
  have y3 := k6.cell 3
  have z3 := k6.frozen 3
  have y4 := k6.cell 4
  have z4 := k6.frozen 4
  have y5 := k6.cell 5
  have z5 := k6.frozen 5
  have y6 := k6.cell 6
  have z6 := k6.frozen 6
  have y7 := k6.cell 7
  have z7 := k6.frozen 7
  have bf := btrans HB.out b2
  have HOWN := Lib.hid (own_any c A1 D1 c1 e1 w2 (H1.out.up bf))
  go_wp2_with fail
  refine HOWN.out.mono ?_
  rintro e w3 ⟨A3, D3, c3, e3, rfl, r3, b3, f3, g3⟩
  have k7 := k6.below b3 (by omega)
  have hz3 := b3.size
  have hlt3 : w.heap.size + 1 < w3.heap.size := by omega
  have hne3 : ¬ w.heap.size + 1 = w3.heap.size := by omega
  have p0 := k7.cell 0
  have q0 := k7.frozen 0
  have p1 := k7.cell 1
  have q1 := k7.frozen 1
  have p2 := k7.cell 2
  have q2 := k7.frozen 2
  have p3 := k7.cell 3
  have q3 := k7.frozen 3
  have p4 := k7.cell 4
  have q4 := k7.frozen 4
  have p5 := k7.cell 5
  have q5 := k7.frozen 5
  have p6 := k7.cell 6
  have q6 := k7.frozen 6
  have p7 := k7.cell 7
  have q7 := k7.frozen 7
  have bg := btrans bf b3
  clear x0 x1 x2 x3 x4 x5 x6 x7 k5 k6
  go_wp2_with fail
  refine bodyPost_ret (v := .agg #[.int .i8 c.st, .int .i64 c.pid, .int .i64 c.ep, .int .i64 c.tm, .int .i64 c.th, .slice A3 c.ps.length c3, .slice D3 c.qs.length e3, .int .i64 1048576]) (by simp [results, Try.results38, go_sem, p0, p1, p2, p3, p4, p5, p6, p7, hlt3, hne3]) rfl ⟨A3, D3, c3, e3, rfl, ?_, ?_, .inr ⟨f3.mono (by have := bf.size; omega), g3.mono (by have := bf.size; omega)⟩⟩
  · exact CoR.al (CoR.sets (CoR.sets (CoR.sets (CoR.sets (CoR.sets (CoR.sets (CoR.sets (CoR.sets r3 f3 g3 (by omega) _) f3 g3 (by omega) _) f3 g3 (by omega) _) f3 g3 (by omega) _) f3 g3 (by omega) _) f3 g3 (by omega) _) f3 g3 (by omega) _) f3 g3 (by omega) _) _
  · exact bal (bset (bset (bset (bset (bset (bset (bset (bset bg (by omega) _) (by omega) _) (by omega) _) (by omega) _) (by omega) _) (by omega) _) (by omega) _) (by omega) _) _

end Go.Proofs.Ytagclnmchkgpdaa
