/-
  Layer 21: a state behind a tick, a state made young: by the program.
  Layer 18: a copy of a transactional id; a tick.
  Layer 18: begins, check, a tick.
  Layer 18: a tick, of the program and of the document.
  Words for structs that lie in a block of their own: loaded, stored and made whole, whatever their size (for walks with loadCells and storeVar out of the simp set).
  Words for a whole state: its cells as an array that stays shut; what a walk loads and stores of it.
  Layer 20: whether a state may be, by the program.
  Layer 21: what becomes of a transactional id and of a whole state behind a tick, or made young: the program's parts.
-/
import Derived.Test.YtbpkckahonmpkaaDoorMeBackProofP04
import Derived.Deep.MidRow
import Derived.Deep.LoopGhost
import Derived.Deep.CutBlock
set_option linter.unusedVariables false
set_option linter.unusedSimpArgs false
namespace Go.Proofs.YtbpkckahonmpkaaDoor
open Go.RowKit

/-- .. they are new. -/
def CoNew (d : Co) (w : World) (e : Ending) (w' : World) : Prop :=
  ∃ (A1 D1 : Option Addr) (c1 e1 : Nat), e = .returned (.agg #[.int .i8 d.st, .int .i64 d.pid, .int .i64 d.ep, .int .i64 d.tm, .int .i64 d.th, .slice A1 d.ps.length c1, .slice D1 d.qs.length e1, .int .i64 d.ag]) ∧ CoR w' w'.heap.size d A1 D1 ∧ Below w.heap.size w w' ∧ NewAt w.heap.size d.ps.length A1 ∧ NewAt w.heap.size d.qs.length D1

set_option maxRecDepth 100000 in
set_option maxHeartbeats 1000000 in
theorem own_any (c : Co) (A1 D1 : Option Addr) (c1 e1 : Nat) (w : World) (h1 : CoR w w.heap.size c A1 D1) :
    Calls Tryd.prog 71 #[(.agg #[.int .i8 c.st, .int .i64 c.pid, .int .i64 c.ep, .int .i64 c.tm, .int .i64 c.th, .slice A1 c.ps.length c1, .slice D1 c.qs.length e1, .int .i64 c.ag])] w (CoNew c w) := by
  have hps := h1.2.2.1
  have hqs := h1.2.2.2
  have h2 := (h1.al (.cells #[.int .i8 c.st, .int .i64 c.pid, .int .i64 c.ep, .int .i64 c.tm, .int .i64 c.th, .slice A1 c.ps.length c1, .slice D1 c.qs.length e1, .int .i64 c.ag] 26)).al (.cells #[.int .i8 0, .int .i64 0, .int .i64 0, .int .i64 0, .int .i64 0, .slice none 0 0, .slice none 0 0, .int .i64 0] 26)
  have HC := Lib.hid (CloneI_any A1 c.ps c1 _ h2.1 (by omega))
  have H2 := Lib.hid h2
  have K1 := Lib.hid ((Blk.new w 26 #[.int .i8 c.st, .int .i64 c.pid, .int .i64 c.ep, .int .i64 c.tm, .int .i64 c.th, .slice A1 c.ps.length c1, .slice D1 c.qs.length e1, .int .i64 c.ag]).alloc (.cells #[.int .i8 0, .int .i64 0, .int .i64 0, .int .i64 0, .int .i64 0, .slice none 0 0, .slice none 0 0, .int .i64 0] 26))
  have kk := Blk.new (w.alloc (.cells #[.int .i8 c.st, .int .i64 c.pid, .int .i64 c.ep, .int .i64 c.tm, .int .i64 c.th, .slice A1 c.ps.length c1, .slice D1 c.qs.length e1, .int .i64 c.ag] 26)) 26 #[.int .i8 0, .int .i64 0, .int .i64 0, .int .i64 0, .int .i64 0, .slice none 0 0, .slice none 0 0, .int .i64 0]
  rw [World.size_alloc] at kk
  have K2 := Lib.hid kk
  have HB := Lib.hid (bal (bal (Below.refl w.heap.size w) (.cells #[.int .i8 c.st, .int .i64 c.pid, .int .i64 c.ep, .int .i64 c.tm, .int .i64 c.th, .slice A1 c.ps.length c1, .slice D1 c.qs.length e1, .int .i64 c.ag] 26)) (.cells #[.int .i8 0, .int .i64 0, .int .i64 0, .int .i64 0, .int .i64 0, .slice none 0 0, .slice none 0 0, .int .i64 0] 26))
  have Q1 := Lib.hid h1.2.1
  clear h1 h2 kk
  go_enter Tryd.func71, Tryd.ntmps71
  go_wp2_with fail
  refine HC.out.mono ?_
  rintro e w2 ⟨A2, c2, rfl, r2, hc2, b2, f2⟩
  have hz2 := b2.size
  simp only [World.size_alloc] at hz2
  have k1 := K1.out.below b2 (by simp only [World.size_alloc]; omega)
  have k2 := K2.out.below b2 (by simp only [World.size_alloc]; omega)
  have u1 := k1.cell 5
  have u2 := k1.frozen 5
  have u3 := k1.cell 6
  go_wp2_with fail
  clear u1 u2 u3
  have k3 := k1.set_ 5 (.slice A2 c.ps.length c2)
  have k4 := k2.far (p := ⟨w.heap.size, 5, none⟩) (by simp) (.slice A2 c.ps.length c2)
  have b3 : Below w.heap.size w (w2.setCell ⟨w.heap.size, 5, none⟩ (.slice A2 c.ps.length c2)) := bset (btrans HB.out b2) (Nat.le_refl _) _
  have rr : Reads (w2.setCell ⟨w.heap.size, 5, none⟩ (.slice A2 c.ps.length c2)) w.heap.size 3 D1 c.qs.length (cellsP c.qs) := Q1.out.below b3
  simp only [World.size_alloc] at f2
  have r3 := r2.away f2 (p := ⟨w.heap.size, 5, none⟩) (by simp only; omega) (.slice A2 c.ps.length c2)
  have hle := b2.size
  generalize hw3 : w2.setCell ⟨w.heap.size, 5, none⟩ (.slice A2 c.ps.length c2) = w3 at *
  have hz3 : w.heap.size + 2 ≤ w3.heap.size := by rw [← hw3]; simpa [World.setCell] using hz2
  refine (CloneP_any D1 c.qs e1 w3 (rr.more b3.size) (by omega)).mono ?_
  rintro e w4 ⟨A4, c4, rfl, r4, hc4, b4, f4⟩
  have r5 := (r3.below (b4.mono (by rw [← hw3]; simp [World.setCell])))
  have k5 := k3.below b4 (by omega)
  have k6 := k4.below b4 (by omega)
  have x1 := k5.cell 0
  have x2 := k5.cell 1
  have x3 := k5.cell 2
  have x4 := k5.cell 3
  have x5 := k5.cell 4
  have x6 := k5.cell 5
  have x7 := k5.cell 6
  have x8 := k5.cell 7
  have x9 := k5.frozen 6
  have y0 := k6.cell 0
  have y1 := k6.cell 1
  have y2 := k6.cell 2
  have y3 := k6.cell 3
  have y4 := k6.cell 4
  have y5 := k6.cell 5
  have y6 := k6.cell 6
  have y7 := k6.cell 7
  have z0 := k6.frozen 0
  have z1 := k6.frozen 1
  have z2 := k6.frozen 2
  have z3 := k6.frozen 3
  have z4 := k6.frozen 4
  have z5 := k6.frozen 5
  have z6 := k6.frozen 6
  have z7 := k6.frozen 7
  go_wp2_with fail
  refine bodyPost_ret (v := .agg #[.int .i8 c.st, .int .i64 c.pid, .int .i64 c.ep, .int .i64 c.tm, .int .i64 c.th, .slice A2 c.ps.length c2, .slice A4 c.qs.length c4, .int .i64 c.ag]) (by simp [results, Tryd.results71, go_sem, y0, y1, y2, y3, y4, y5, y6, y7]) rfl ⟨A2, A4, c2, c4, rfl, ⟨?_, ?_, hps, hqs⟩, ?_, f2.mono (by omega), f4.mono (by have := b3.size; omega)⟩
  · have hs : w2.heap.size ≤ w4.heap.size := by
      have h1 := b4.size
      have h2 : w3.heap.size = w2.heap.size := by rw [← hw3]; simp [World.setCell]
      omega
    have q0 := r5.away f2 (p := ⟨w.heap.size, 6, none⟩) (by simp only; omega) (.slice A4 c.qs.length c4)
    have q1 := q0.away f2 (p := ⟨w.heap.size + 1, 0, none⟩) (by simp only; omega) (.int .i8 c.st)
    have q2 := q1.away f2 (p := ⟨w.heap.size + 1, 1, none⟩) (by simp only; omega) (.int .i64 c.pid)
    have q3 := q2.away f2 (p := ⟨w.heap.size + 1, 2, none⟩) (by simp only; omega) (.int .i64 c.ep)
    have q4 := q3.away f2 (p := ⟨w.heap.size + 1, 3, none⟩) (by simp only; omega) (.int .i64 c.tm)
    have q5 := q4.away f2 (p := ⟨w.heap.size + 1, 4, none⟩) (by simp only; omega) (.int .i64 c.th)
    have q6 := q5.away f2 (p := ⟨w.heap.size + 1, 5, none⟩) (by simp only; omega) (.slice A2 c.ps.length c2)
    have q7 := q6.away f2 (p := ⟨w.heap.size + 1, 6, none⟩) (by simp only; omega) (.slice A4 c.qs.length c4)
    have q8 := q7.away f2 (p := ⟨w.heap.size + 1, 7, none⟩) (by simp only; omega) (.int .i64 c.ag)
    exact q8.more (by simpa [World.setCell] using hs)
  · have q0 := r4.away f4 (p := ⟨w.heap.size, 6, none⟩) (by simp only; omega) (.slice A4 c.qs.length c4)
    have q1 := q0.away f4 (p := ⟨w.heap.size + 1, 0, none⟩) (by simp only; omega) (.int .i8 c.st)
    have q2 := q1.away f4 (p := ⟨w.heap.size + 1, 1, none⟩) (by simp only; omega) (.int .i64 c.pid)
    have q3 := q2.away f4 (p := ⟨w.heap.size + 1, 2, none⟩) (by simp only; omega) (.int .i64 c.ep)
    have q4 := q3.away f4 (p := ⟨w.heap.size + 1, 3, none⟩) (by simp only; omega) (.int .i64 c.tm)
    have q5 := q4.away f4 (p := ⟨w.heap.size + 1, 4, none⟩) (by simp only; omega) (.int .i64 c.th)
    have q6 := q5.away f4 (p := ⟨w.heap.size + 1, 5, none⟩) (by simp only; omega) (.slice A2 c.ps.length c2)
    have q7 := q6.away f4 (p := ⟨w.heap.size + 1, 6, none⟩) (by simp only; omega) (.slice A4 c.qs.length c4)
    have q8 := q7.away f4 (p := ⟨w.heap.size + 1, 7, none⟩) (by simp only; omega) (.int .i64 c.ag)
    exact q8.more (by simp [World.setCell])
  · exact bset (bset (bset (bset (bset (bset (bset (bset (bset (btrans b3 b4) (Nat.le_refl _) _) (by omega) _) (by omega) _) (by omega) _) (by omega) _) (by omega) _) (by omega) _) (by omega) _) (by omega) _
end Go.Proofs.YtbpkckahonmpkaaDoor
namespace Go.Proofs.YtbpkckahonmpkaaDoor
open Go.RowKit

def beginsB (st mv : Int) : Bool :=
  if st = 0 then mv == 0
  else if st = 2 then ((mv == 1) || (mv == 2)) || (mv == 4)
  else if st = 1 ∨ st = 5 ∨ st = 6 then ((mv == 0) || (mv == 1)) || (mv == 2)
  else if st = 3 ∨ st = 4 then mv == 3
  else false

set_option maxRecDepth 100000 in
set_option maxHeartbeats 1000000 in
theorem begins_any (st mv : Int) (w : World) : Calls Tryd.prog 80 #[.int .i8 st, .int .i8 mv] w fun e w' => e = .returned (.bool (beginsB st mv)) ∧ w = w' := by
  have h : st = 0 ∨ st = 2 ∨ st = 1 ∨ st = 5 ∨ st = 6 ∨ st = 3 ∨ st = 4 ∨ (st < 0 ∨ 6 < st) := by omega
  rcases h with rfl | rfl | rfl | rfl | rfl | rfl | rfl | h
  · go_enter Tryd.func80, Tryd.ntmps80
    go_wp2
    all_goals (go_ret; exact ⟨ret_bool (by unfold beginsB; simp [*]), rfl⟩)
  · go_enter Tryd.func80, Tryd.ntmps80
    go_wp2
    all_goals (go_ret; exact ⟨ret_bool (by unfold beginsB; simp [*]), rfl⟩)
  · go_enter Tryd.func80, Tryd.ntmps80
    go_wp2
    all_goals (go_ret; exact ⟨ret_bool (by unfold beginsB; simp [*]), rfl⟩)
  · go_enter Tryd.func80, Tryd.ntmps80
    go_wp2
    all_goals (go_ret; exact ⟨ret_bool (by unfold beginsB; simp [*]), rfl⟩)
  · go_enter Tryd.func80, Tryd.ntmps80
    go_wp2
    all_goals (go_ret; exact ⟨ret_bool (by unfold beginsB; simp [*]), rfl⟩)
  · go_enter Tryd.func80, Tryd.ntmps80
    go_wp2
    all_goals (go_ret; exact ⟨ret_bool (by unfold beginsB; simp [*]), rfl⟩)
  · go_enter Tryd.func80, Tryd.ntmps80
    go_wp2
    all_goals (go_ret; exact ⟨ret_bool (by unfold beginsB; simp [*]), rfl⟩)
  · have d0 : (st == 0) = false := eqb_false (by omega)
    have d1 : (st == 1) = false := eqb_false (by omega)
    have d2 : (st == 2) = false := eqb_false (by omega)
    have d3 : (st == 3) = false := eqb_false (by omega)
    have d4 : (st == 4) = false := eqb_false (by omega)
    have d5 : (st == 5) = false := eqb_false (by omega)
    have d6 : (st == 6) = false := eqb_false (by omega)
    have hs : beginsB st mv = false := by
      unfold beginsB
      rw [if_neg (by omega), if_neg (by omega), if_neg (by omega), if_neg (by omega)]
    have HS := Lib.hid hs
    clear hs h
    go_enter Tryd.func80, Tryd.ntmps80
    go_wp2
    go_ret
    exact ⟨ret_bool HS.out.symm, rfl⟩

/-- The code of what check says; 0: nothing is wrong. -/
noncomputable def chkE (c : Co) (mv : Int) (fit : Bool) : Int := if fit = false ∨ mayB c = false then 2 else if beginsB c.st mv = false then 180 else 0
/-- A fault with its code. -/
def FaultAt (code : Int) (w : World) (e : Ending) (w' : World) : Prop :=
  ∃ b, e = .returned (.iface 92 (.pointer (some ⟨b, 0, none⟩))) ∧ w'.cell? ⟨b, 1, none⟩ = some (.int .i64 code) ∧ w.heap.size ≤ b ∧ b < w'.heap.size
def ChkPost (c : Co) (mv : Int) (fit : Bool) (w : World) (e : Ending) (w' : World) : Prop :=
  Below w.heap.size w w' ∧ ((chkE c mv fit = 0 ∧ e = .returned .nilIface) ∨ (¬ chkE c mv fit = 0 ∧ FaultAt (chkE c mv fit) w e w'))

set_option maxRecDepth 100000 in
set_option maxHeartbeats 1000000 in
theorem check_any (c : Co) (A1 D1 : Option Addr) (c1 e1 : Nat) (mv : Int) (fit : Bool) (B : Nat) (w : World) (h1 : CoR w B c A1 D1) (hB : B ≤ w.heap.size) :
    Calls Tryd.prog 64 #[(.agg #[.int .i8 c.st, .int .i64 c.pid, .int .i64 c.ep, .int .i64 c.tm, .int .i64 c.th, .slice A1 c.ps.length c1, .slice D1 c.qs.length e1, .int .i64 c.ag]), .int .i8 mv, .bool fit] w (ChkPost c mv fit w) := by
  have HB := Lib.hid (fun x => bal (Below.refl w.heap.size w) x)
  have HB2 := Lib.hid (fun x y => bal (bal (Below.refl w.heap.size w) x) y)
  have HM := Lib.hid (fun x => May_any c A1 D1 c1 e1 B (w.alloc x) (h1.below (((Below.refl w.heap.size w).alloc (Nat.le_refl _) x).mono hB)) (by simp; omega))
  have KN := fun (W : World) (v : Value) (code : Int) => (Blk.new W 94 #[v, .int .i64 code]).cell 1
  have HKN := Lib.hid KN
  have KC := Lib.hid (Blk.new w 26 #[.int .i8 c.st, .int .i64 c.pid, .int .i64 c.ep, .int .i64 c.tm, .int .i64 c.th, .slice A1 c.ps.length c1, .slice D1 c.qs.length e1, .int .i64 c.ag])
  clear KN h1
  cases fit
  · have hc : chkE c mv false = 2 := by unfold chkE; simp
    have HCC := Lib.hid hc
    clear hc
    go_enter Tryd.func64, Tryd.ntmps64
    go_wp2_with fail
    go_ret
    refine ⟨HB2.out _ _, .inr ⟨by rw [HCC.out]; decide, ?_⟩⟩
    rw [HCC.out]
    refine ⟨_, rfl, ?_, by omega, by simp⟩
    have h := HKN.out (w.alloc (.cells #[.int .i8 c.st, .int .i64 c.pid, .int .i64 c.ep, .int .i64 c.tm, .int .i64 c.th, .slice A1 c.ps.length c1, .slice D1 c.qs.length e1, .int .i64 c.ag] 26)) (.string ⟨#[97, 110, 32, 97, 114, 103, 117, 109, 101, 110, 116]⟩) 2
    rw [World.size_alloc] at h
    exact h
  · cases hm : mayB c
    · have hc : chkE c mv true = 2 := by unfold chkE; simp [hm]
      have HCC := Lib.hid hc
      rw [hm] at HM
      clear hc hm
      go_enter Tryd.func64, Tryd.ntmps64
      go_wp2_with (go_at_call 41; refine (HM.out _).mono ?_; rintro e w1 ⟨rfl, b1⟩)
      go_ret
      have bb := btrans (HB.out _) b1
      have hz := b1.size
      rw [World.size_alloc] at hz
      refine ⟨bal bb _, .inr ⟨by rw [HCC.out]; decide, ?_⟩⟩
      rw [HCC.out]
      exact ⟨_, rfl, HKN.out w1 (.string ⟨#[97, 110, 32, 97, 114, 103, 117, 109, 101, 110, 116]⟩) 2, by omega, by simp⟩
    · rw [hm] at HM
      have HBG := Lib.hid (fun W => begins_any c.st mv W)
      cases hg : beginsB c.st mv
      · have hc : chkE c mv true = 180 := by unfold chkE; simp [hm, hg]
        have HCC := Lib.hid hc
        rw [hg] at HBG
        clear hc hm hg
        go_enter Tryd.func64, Tryd.ntmps64
        go_wp2_with (go_at_call 41; refine (HM.out _).mono ?_; rintro e w1 ⟨rfl, b1⟩; have g0 := (KC.out.below b1 (by simp)).cell 0)
        refine (HBG.out _).mono ?_
        rintro e w2 ⟨rfl, rfl⟩
        go_wp2_with fail
        go_ret
        have bb := btrans (HB.out _) b1
        have hz := b1.size
        rw [World.size_alloc] at hz
        refine ⟨bal bb _, .inr ⟨by rw [HCC.out]; decide, ?_⟩⟩
        rw [HCC.out]
        exact ⟨_, rfl, HKN.out w1 (.string ⟨#[97, 32, 115, 116, 97, 116, 101]⟩) 180, by omega, by simp⟩
      · have hc : chkE c mv true = 0 := by unfold chkE; simp [hm, hg]
        have HCC := Lib.hid hc
        rw [hg] at HBG
        clear hc hm hg
        go_enter Tryd.func64, Tryd.ntmps64
        go_wp2_with (go_at_call 41; refine (HM.out _).mono ?_; rintro e w1 ⟨rfl, b1⟩; have g0 := (KC.out.below b1 (by simp)).cell 0)
        refine (HBG.out _).mono ?_
        rintro e w2 ⟨rfl, rfl⟩
        go_wp2_with fail
        go_ret
        exact ⟨btrans (HB.out _) b1, .inl ⟨HCC.out, rfl⟩⟩
end Go.Proofs.YtbpkckahonmpkaaDoor
namespace Go.Proofs.YtbpkckahonmpkaaDoor
open Go.RowKit

theorem CoR.sets {w : World} {c : Co} {A D : Option Addr} {lo : Nat} (h : CoR w w.heap.size c A D) (f : NewAt lo c.ps.length A) (g : NewAt lo c.qs.length D) {b o : Nat} (hb : b < lo) (u : Value) : CoR (w.setCell ⟨b, o, none⟩ u) (w.setCell ⟨b, o, none⟩ u).heap.size c A D := by
  have hs : (w.setCell ⟨b, o, none⟩ u).heap.size = w.heap.size := by simp [World.setCell]
  rw [hs]
  exact ⟨h.1.away f hb u, h.2.1.away g hb u, h.2.2⟩

noncomputable def tickC (c : Co) : Co := if mayB c = true ∧ c.st = 2 then { c with ag := if c.ag < 1048576 then c.ag + 1 else c.ag } else c

theorem range_ag {c : Co} (h : rangeB c = true) : 0 ≤ c.ag ∧ c.ag ≤ 1048576 := by
  unfold rangeB at h
  simp only [Bool.and_eq_true, decide_eq_true_eq] at h
  omega
theorem may_range {c : Co} (h : mayB c = true) (h0 : ¬ c.st = 0) : rangeB c = true := by
  unfold mayB at h
  rw [if_neg h0] at h
  split at h
  · unfold tailB at h; simp only [Bool.and_eq_true] at h; exact h.2.2.2
  · split at h
    · unfold tailB at h; simp only [Bool.and_eq_true] at h; exact h.2.2
    · split at h
      · unfold tailB at h; simp only [Bool.and_eq_true] at h; exact h.2
      · split at h
        · unfold idleB at h; simp only [Bool.and_eq_true] at h; exact h.2.2.2.2
        · cases h
end Go.Proofs.YtbpkckahonmpkaaDoor
namespace Go.Proofs.YtbpkckahonmpkaaDoor
open Go.RowKit

section
variable {P : Program}
def bkSet (cs : Array Value) : Nat → List Value → Array Value
  | _, [] => cs
  | o, v :: r => bkSet (cs.setIfInBounds o v) (o + 1) r
theorem bkSet_pre : ∀ (vs zs pre : List Value), zs.length = vs.length → bkSet (pre ++ zs).toArray pre.length vs = (pre ++ vs).toArray
  | [], zs, pre, h => by
    rw [List.length_eq_zero_iff.1 h]
    rfl
  | v :: vs, [], pre, h => by simp at h
  | v :: vs, z :: zs, pre, h => by
    rw [bkSet]
    have e : (pre ++ z :: zs).toArray.setIfInBounds pre.length v = ((pre ++ [v]) ++ zs).toArray := by
      rw [List.setIfInBounds_toArray]
      congr 1
      rw [List.set_append_right _ _ (Nat.le_refl _)]
      simp
    rw [e]
    have := bkSet_pre vs zs (pre ++ [v]) (by simpa using h)
    rw [List.length_append, List.length_singleton] at this
    rw [this]
    simp
theorem bkSet_all (zs cs : Array Value) (h : zs.size = cs.size) : bkSet zs 0 cs.toList = cs := by
  have := bkSet_pre cs.toList zs.toList [] (by simpa using h)
  simpa using this
theorem bk_setCells {b : Nat} {t : TypeId} : ∀ (vs : List Value) (o : Nat) (W : World) (cs : Array Value), Blk W b t cs → Blk (W.setCells b o vs) b t (bkSet cs o vs)
  | [], _, _, _, h => h
  | v :: r, o, W, cs, h => by
    rw [World.setCells]
    exact bk_setCells r (o + 1) _ _ (h.set_ o v)
theorem bk_setCells_heap (b : Nat) : ∀ (vs : List Value) (o : Nat) (W : World) (k : Nat), k ≠ b → (W.setCells b o vs).heap[k]? = W.heap[k]?
  | [], _, _, _, _ => rfl
  | v :: r, o, W, k, hk => by
    rw [World.setCells, bk_setCells_heap b r (o + 1) _ k hk]
    exact Below.heap_setCell _ _ _ _ hk
theorem bk_setCells_below {n b : Nat} {w : World} (hb : n ≤ b) : ∀ (vs : List Value) (o : Nat) (W : World), Below n w W → Below n w (W.setCells b o vs)
  | [], _, _, h => h
  | v :: r, o, W, h => by
    rw [World.setCells]
    exact bk_setCells_below hb r (o + 1) _ (h.setCell (p := ⟨b, o, none⟩) hb v)
theorem bk_setCells_size (b : Nat) : ∀ (vs : List Value) (o : Nat) (W : World), (W.setCells b o vs).heap.size = W.heap.size
  | [], _, _ => rfl
  | v :: r, o, W => by
    rw [World.setCells, bk_setCells_size b r (o + 1)]
    simp
theorem bk_new (w : World) (t : TypeId) (cs : Array Value) {g : Nat} (hg : w.heap.size = g) : Blk (w.alloc (.cells cs t)) g t cs := hg ▸ Blk.new w t cs
/-- A struct that lies in a block, its cells loaded. -/
theorem bk_load {W : World} {b : Nat} {t : TypeId} {cs : Array Value} (n : Nat) (h : Blk W b t cs) (hn : cs.size = n) : (loadCells ⟨b, 0, none⟩ n).run P W = .ok cs W := by
  have := run_loadCells_list (P := P) W ⟨b, 0, none⟩ cs.toList (fun j v hv => by
    rw [Addr.add_mid, Nat.zero_add, h.cell j]
    simpa using hv)
  rw [Array.length_toList, hn] at this
  simpa using this
/-- .. a part of one. -/
theorem bk_load_off {W : World} {b : Nat} {t : TypeId} {cs : Array Value} (o n : Nat) (h : Blk W b t cs) {vs : Array Value} (hvs : (cs.toList.drop o).take n = vs.toList) (hn : vs.size = n) : (loadCells ⟨b, o, none⟩ n).run P W = .ok vs W := by
  have := run_loadCells_list (P := P) W ⟨b, o, none⟩ vs.toList (fun j v hv => by
    have hj : j < n := by
      have := (List.getElem?_eq_some_iff.1 hv).1
      rw [Array.length_toList] at this
      omega
    rw [Addr.add_mid, h.cell (o + j), ← hv, ← hvs, List.getElem?_take_of_lt hj, List.getElem?_drop]
    simp)
  rw [Array.length_toList, hn] at this
  simpa using this
/-- A struct stored into a block. -/
theorem bk_store {W : World} {b : Nat} {t ty : TypeId} {cs zs : Array Value} (n : Nat) (h : Blk W b t zs) (hi : (P.info? ty).map (·.size) = some n) (hz : zs.size = n) (hn : cs.size = n) (h1 : cs.all (·.oneCell') = true) :
    ∃ W', (storeVar ty ⟨b, 0, none⟩ (.agg cs)).run P W = .ok () W' ∧ Blk W' b t cs ∧ (∀ m (w : World), m ≤ b → Below m w W → Below m w W') ∧ (∀ k, k ≠ b → W'.heap[k]? = W.heap[k]?) ∧ W'.heap.size = W.heap.size :=
  ⟨_, run_storeVar_mid W b 0 ty cs (fun j hj => by
      rw [Nat.zero_add]
      exact ⟨by rw [h.cell j]; simp; omega, h.frozen j⟩) (by rw [hi, hn]) h1,
    (by have := bk_setCells cs.toList 0 _ _ h; rw [bkSet_all zs cs (by rw [hz, hn])] at this; exact this), fun m w hb hB => bk_setCells_below hb _ _ _ hB, fun k hk => bk_setCells_heap b _ _ _ k hk, bk_setCells_size ..⟩
/-- A new block for a struct, filled at once. -/
theorem bk_fresh (w1 : World) (ty : TypeId) (zs cs : Array Value) (n : Nat) (hi : (P.info? ty).map (·.size) = some n) (hz : zs.size = n) (hn : cs.size = n) (h1 : cs.all (·.oneCell') = true) :
    ∃ W', (storeVar ty ⟨w1.heap.size, 0, none⟩ (.agg cs)).run P (w1.alloc (.cells zs ty)) = .ok () W' ∧ Blk W' w1.heap.size ty cs ∧ Below w1.heap.size w1 W' ∧ W'.heap.size = w1.heap.size + 1 := by
  obtain ⟨W', st, kw, fb, _, hs⟩ := bk_store (ty := ty) (cs := cs) n (Blk.new w1 ty zs) hi hz hn h1
  exact ⟨W', st, kw, fb _ w1 (Nat.le_refl _) ((Below.refl _ _).alloc (Nat.le_refl _) _), by rw [hs, World.size_alloc]⟩
/-- What a row's own block keeps. -/
theorem bk_own {w w' : World} {base : Nat} {e : TypeId} {size n : Nat} {v : Value} {xs : List Value} (k : w.ownsRow base e size v n xs) (h : ∀ x, v.ownBlock = some x → w'.heap[x]? = w.heap[x]?) : w'.ownsRow base e size v n xs := by
  refine ⟨k.1, ?_⟩
  rcases k.2 with hn | ⟨g, cap, cur, rfl, hb, hgg, rest⟩
  · exact .inl hn
  · exact .inr ⟨g, cap, cur, rfl, hb, (h g rfl).trans hgg, rest⟩
theorem bk_grown_blk {w w' : World} {r : Option Nat} (h : w.grownBy w' r) {b : Nat} {t : TypeId} {cs : Array Value} (k : Blk w b t cs) (hne : r ≠ some b) : Blk w' b t cs :=
  (h.block b k.lt (fun e => hne e.symm)).trans k
theorem bk_grown_own {w w' : World} {r : Option Nat} (h : w.grownBy w' r) {base : Nat} {e : TypeId} {size n : Nat} {v : Value} {xs : List Value} (k : w.ownsRow base e size v n xs) (hne : ∀ y, v.ownBlock = some y → r ≠ some y) : w'.ownsRow base e size v n xs :=
  bk_own k fun x hx => h.block x (k.lt x hx).2 (fun e => hne x hx e.symm)
end
end Go.Proofs.YtbpkckahonmpkaaDoor
namespace Go.Proofs.YtbpkckahonmpkaaDoor
open Go.RowKit

theorem infoCoS : (Tryd.prog.info? 26).map (·.size) = some 8 := by kernel_rfl
theorem infoSta : (Tryd.prog.info? 31).map (·.size) = some 31 := by kernel_rfl
structure Sta where
  made : Int
  tid : Nat → Co
  gr : Nat → Int
/-- Where the lists of a state's transactional ids lie. -/
structure Sad where
  A : Nat → Option Addr
  D : Nat → Option Addr
  c : Nat → Nat
  e : Nat → Nat
def coL (x : Co) (A D : Option Addr) (c e : Nat) : List Value := [.int .i8 x.st, .int .i64 x.pid, .int .i64 x.ep, .int .i64 x.tm, .int .i64 x.th, .slice A x.ps.length c, .slice D x.qs.length e, .int .i64 x.ag]
def coAt (s : Sta) (a : Sad) (k : Nat) : List Value := coL (s.tid k) (a.A k) (a.D k) (a.c k) (a.e k)
def tidL (s : Sta) (a : Sad) : List Value := coAt s a 0 ++ (coAt s a 1 ++ coAt s a 2)
def grL (s : Sta) : List Value := [.int .i64 (s.gr 0), .int .i64 (s.gr 1), .int .i64 (s.gr 2), .int .i64 (s.gr 3), .int .i64 (s.gr 4), .int .i64 (s.gr 5)]
def stL (s : Sta) (a : Sad) : List Value := .int .i64 s.made :: (tidL s a ++ grL s)
def tidX (s : Sta) (a : Sad) : Array Value := (tidL s a).toArray
def grX (s : Sta) : Array Value := (grL s).toArray
def stX (s : Sta) (a : Sad) : Array Value := (stL s a).toArray
theorem stX_size (s : Sta) (a : Sad) : (stX s a).size = 31 := rfl
theorem stX_one (s : Sta) (a : Sad) : (stX s a).all (·.oneCell') = true := by
  simp [stX, stL, tidL, coAt, coL, grL, Value.oneCell']
/-- Its lists, as they lie in memory. -/
def StR (w : World) (B : Nat) (s : Sta) (a : Sad) : Prop := ∀ k, k < 3 → CoR w B (s.tid k) (a.A k) (a.D k)
theorem StR.below {w w' : World} {B : Nat} {s : Sta} {a : Sad} (h : StR w B s a) (hb : Below B w w') : StR w' B s a := fun k hk => (h k hk).below hb
theorem StR.more {w : World} {B B' : Nat} {s : Sta} {a : Sad} (h : StR w B s a) (hb : B ≤ B') : StR w B' s a := fun k hk => (h k hk).more hb
theorem StR.up {w w' : World} {s : Sta} {a : Sad} (h : StR w w.heap.size s a) (hb : Below w.heap.size w w') : StR w' w'.heap.size s a := fun k hk => (h k hk).up hb
section
variable {W : World} {b : Nat} {t : TypeId} {s : Sta} {a : Sad}
theorem st_load (h : Blk W b t (stX s a)) : (loadCells ⟨b, 0, none⟩ 31).run Tryd.prog W = .ok (stX s a) W := bk_load 31 h rfl
theorem st_made (h : Blk W b t (stX s a)) : W.cell? ⟨b, 0, none⟩ = some (.int .i64 s.made) := h.cell 0
theorem st_tids (h : Blk W b t (stX s a)) : (loadCells ⟨b, 1, none⟩ 24).run Tryd.prog W = .ok (tidX s a) W := bk_load_off 1 24 h rfl rfl
theorem st_grs (h : Blk W b t (stX s a)) : (loadCells ⟨b, 25, none⟩ 6).run Tryd.prog W = .ok (grX s) W := bk_load_off 25 6 h rfl rfl
theorem st_tid (h : Blk W b t (stX s a)) (k : Nat) (hk : k < 3) : (loadCells ⟨b, 1 + k * 8, none⟩ 8).run Tryd.prog W = .ok #[.int .i8 (s.tid k).st, .int .i64 (s.tid k).pid, .int .i64 (s.tid k).ep, .int .i64 (s.tid k).tm, .int .i64 (s.tid k).th, .slice (a.A k) (s.tid k).ps.length (a.c k), .slice (a.D k) (s.tid k).qs.length (a.e k), .int .i64 (s.tid k).ag] W := by
  match k, hk with
  | 0, _ => exact bk_load_off 1 8 h rfl rfl
  | 1, _ => exact bk_load_off 9 8 h rfl rfl
  | 2, _ => exact bk_load_off 17 8 h rfl rfl
theorem st_cell (h : Blk W b t (stX s a)) (k : Nat) (hk : k < 3) {j : Nat} {v : Value} (hv : (coAt s a k)[j]? = some v) : W.cell? ⟨b, 1 + k * 8 + j, none⟩ = some v := by
  have hj : j < 8 := (List.getElem?_eq_some_iff.1 hv).1
  rw [h.cell, ← hv]
  match k, hk with
  | 0, _ => match j, hj with
    | 0, _ | 1, _ | 2, _ | 3, _ | 4, _ | 5, _ | 6, _ | 7, _ => rfl
  | 1, _ => match j, hj with
    | 0, _ | 1, _ | 2, _ | 3, _ | 4, _ | 5, _ | 6, _ | 7, _ => rfl
  | 2, _ => match j, hj with
    | 0, _ | 1, _ | 2, _ | 3, _ | 4, _ | 5, _ | 6, _ | 7, _ => rfl
theorem st_gr (h : Blk W b t (stX s a)) (g : Nat) (hg : g < 6) : W.cell? ⟨b, 25 + g, none⟩ = some (.int .i64 (s.gr g)) := by
  rw [h.cell]
  match g, hg with
  | 0, _ | 1, _ | 2, _ | 3, _ | 4, _ | 5, _ => rfl
theorem st_index0 (s : Sta) (a : Sad) (W : World) : (Instr.index 27 (.agg (tidX s a)) (.int .i64 0)).run Tryd.prog W = .ok (.agg #[.int .i8 (s.tid 0).st, .int .i64 (s.tid 0).pid, .int .i64 (s.tid 0).ep, .int .i64 (s.tid 0).tm, .int .i64 (s.tid 0).th, .slice (a.A 0) (s.tid 0).ps.length (a.c 0), .slice (a.D 0) (s.tid 0).qs.length (a.e 0), .int .i64 (s.tid 0).ag]) W := by kernel_rfl
theorem st_index1 (s : Sta) (a : Sad) (W : World) : (Instr.index 27 (.agg (tidX s a)) (.int .i64 1)).run Tryd.prog W = .ok (.agg #[.int .i8 (s.tid 1).st, .int .i64 (s.tid 1).pid, .int .i64 (s.tid 1).ep, .int .i64 (s.tid 1).tm, .int .i64 (s.tid 1).th, .slice (a.A 1) (s.tid 1).ps.length (a.c 1), .slice (a.D 1) (s.tid 1).qs.length (a.e 1), .int .i64 (s.tid 1).ag]) W := by kernel_rfl
theorem st_index2 (s : Sta) (a : Sad) (W : World) : (Instr.index 27 (.agg (tidX s a)) (.int .i64 2)).run Tryd.prog W = .ok (.agg #[.int .i8 (s.tid 2).st, .int .i64 (s.tid 2).pid, .int .i64 (s.tid 2).ep, .int .i64 (s.tid 2).tm, .int .i64 (s.tid 2).th, .slice (a.A 2) (s.tid 2).ps.length (a.c 2), .slice (a.D 2) (s.tid 2).qs.length (a.e 2), .int .i64 (s.tid 2).ag]) W := by kernel_rfl
theorem st_index (s : Sta) (a : Sad) (k : Nat) (hk : k < 3) (W : World) : (Instr.index 27 (.agg (tidX s a)) (.int .i64 k)).run Tryd.prog W = .ok (.agg #[.int .i8 (s.tid k).st, .int .i64 (s.tid k).pid, .int .i64 (s.tid k).ep, .int .i64 (s.tid k).tm, .int .i64 (s.tid k).th, .slice (a.A k) (s.tid k).ps.length (a.c k), .slice (a.D k) (s.tid k).qs.length (a.e k), .int .i64 (s.tid k).ag]) W := by
  match k, hk with
  | 0, _ => exact st_index0 s a W
  | 1, _ => exact st_index1 s a W
  | 2, _ => exact st_index2 s a W
end
/-- A round of the groups. -/
def grRow (s : Sta) (g : Nat) : Array Value := #[.int .i64 (s.gr (g * 3)), .int .i64 (s.gr (g * 3 + 1)), .int .i64 (s.gr (g * 3 + 2))]
theorem gr_index0 (s : Sta) (W : World) : (Instr.index 29 (.agg (grX s)) (.int .i64 0)).run Tryd.prog W = .ok (.agg (grRow s 0)) W := by kernel_rfl
theorem gr_index1 (s : Sta) (W : World) : (Instr.index 29 (.agg (grX s)) (.int .i64 1)).run Tryd.prog W = .ok (.agg (grRow s 1)) W := by kernel_rfl
theorem gr_index (s : Sta) (g : Nat) (hg : g < 2) (W : World) : (Instr.index 29 (.agg (grX s)) (.int .i64 g)).run Tryd.prog W = .ok (.agg (grRow s g)) W := by
  match g, hg with
  | 0, _ => exact gr_index0 s W
  | 1, _ => exact gr_index1 s W
theorem row_index0 (s : Sta) (g : Nat) (W : World) : (Instr.index 28 (.agg (grRow s g)) (.int .i64 0)).run Tryd.prog W = .ok (.int .i64 (s.gr (g * 3 + 0))) W := by kernel_rfl
theorem row_index1 (s : Sta) (g : Nat) (W : World) : (Instr.index 28 (.agg (grRow s g)) (.int .i64 1)).run Tryd.prog W = .ok (.int .i64 (s.gr (g * 3 + 1))) W := by kernel_rfl
theorem row_index2 (s : Sta) (g : Nat) (W : World) : (Instr.index 28 (.agg (grRow s g)) (.int .i64 2)).run Tryd.prog W = .ok (.int .i64 (s.gr (g * 3 + 2))) W := by kernel_rfl
theorem row_index (s : Sta) (g q : Nat) (hq : q < 3) (W : World) : (Instr.index 28 (.agg (grRow s g)) (.int .i64 q)).run Tryd.prog W = .ok (.int .i64 (s.gr (g * 3 + q))) W := by
  match q, hq with
  | 0, _ => exact row_index0 s g W
  | 1, _ => exact row_index1 s g W
  | 2, _ => exact row_index2 s g W
theorem may_pid {c : Co} (h : mayB c = true) : 0 ≤ c.pid := by
  by_cases h0 : c.st = 0
  · unfold mayB at h
    rw [if_pos h0] at h
    unfold sameB at h
    simp only [Bool.and_eq_true, beq_iff_eq] at h
    have := h.2.1
    show 0 ≤ c.pid
    rw [this]
    exact Int.le_refl 0
  have h1 := may_range h h0
  unfold rangeB at h1
  simp only [Bool.and_eq_true, decide_eq_true_eq] at h1
  omega
/-- Whether a state may be. -/
noncomputable def okT (s : Sta) (i : Nat) : Bool := mayB (s.tid i) && (decide ((s.tid i).pid ≤ s.made) && (List.range i).all fun j => !((s.tid i).pid != 0 && (s.tid j).pid == (s.tid i).pid))
def okG (s : Sta) (g : Nat) : Bool := decide (-1 ≤ s.gr g) && decide (s.gr g ≤ 1048576)
noncomputable def mayS (s : Sta) : Bool := decide (0 ≤ s.made) && (decide (s.made ≤ 8) && ((List.range 3).all (okT s) && (List.range 6).all (okG s)))
theorem mayS_iff (s : Sta) : mayS s = true ↔ 0 ≤ s.made ∧ s.made ≤ 8 ∧ (∀ k, k < 3 → okT s k = true) ∧ ∀ g, g < 6 → okG s g = true := by
  unfold mayS
  simp only [Bool.and_eq_true, decide_eq_true_eq, List.all_eq_true, List.mem_range]
theorem okT_iff (s : Sta) (i : Nat) : okT s i = true ↔ mayB (s.tid i) = true ∧ (s.tid i).pid ≤ s.made ∧ ∀ j, j < i → (s.tid i).pid = 0 ∨ (s.tid j).pid ≠ (s.tid i).pid := by
  unfold okT
  simp only [Bool.and_eq_true, decide_eq_true_eq, List.all_eq_true, List.mem_range, Bool.not_eq_true', Bool.and_eq_false_iff, bne_eq_false_iff_eq, beq_eq_false_iff_ne]
theorem mayS_no {s : Sta} (h : ¬ (0 ≤ s.made ∧ s.made ≤ 8 ∧ (∀ k, k < 3 → okT s k = true) ∧ ∀ g, g < 6 → okG s g = true)) : mayS s = false := by
  cases hm : mayS s
  · rfl
  · exact absurd ((mayS_iff s).1 hm) h
theorem mayS_noT {s : Sta} {k : Nat} (hk : k < 3) (h : okT s k = false) : mayS s = false := mayS_no (fun z => by have := z.2.2.1 k hk; rw [h] at this; cases this)
theorem mayS_noG {s : Sta} {g : Nat} (hg : g < 6) (h : okG s g = false) : mayS s = false := mayS_no (fun z => by have := z.2.2.2 g hg; rw [h] at this; cases this)
end Go.Proofs.YtbpkckahonmpkaaDoor
namespace Go.Proofs.YtbpkckahonmpkaaDoor
open Go.RowKit
theorem infoR3 : (Tryd.prog.info? 28).map (·.size) = some 3 := by kernel_rfl
section
attribute [-go_sem] loadCells storeVar
set_option maxRecDepth 100000 in
set_option maxHeartbeats 8000000 in
theorem mMay_any (s : Sta) (a : Sad) (B : Nat) (w : World) (h : StR w B s a) (hB : B ≤ w.heap.size) :
    Calls Tryd.prog 26 #[.agg (stX s a)] w fun e w' => e = .returned (.bool (mayS s)) ∧ Below w.heap.size w w' := by
  obtain ⟨W0, hW0⟩ : ∃ W0, W0 = w.alloc (.cells (stX s a) 31) := ⟨_, rfl⟩
  have s0 : W0.heap.size = w.heap.size + 1 := by rw [hW0]; simp
  have B0 : Below w.heap.size w W0 := by rw [hW0]; exact bal (Below.refl _ _) _
  have K1 : Blk W0 w.heap.size 31 (stX s a) := by rw [hW0]; exact Blk.new w 31 (stX s a)
  have HW := Lib.hid hW0
  have HS := Lib.hid s0
  have HB := Lib.hid B0
  have HK := Lib.hid K1
  have H := Lib.hid h
  have HBB := Lib.hid hB
  have x0 := st_made K1
  have x1 := st_tids K1
  have x2 := st_grs K1
  clear hW0 s0 B0 K1 h hB
  by_cases m0 : s.made < 0
  · have d0 : decide (s.made < 0) = true := decide_eq_true m0
    have HM := Lib.hid (show mayS s = false from mayS_no (fun z => by omega))
    clear m0
    go_enter Tryd.func26, Tryd.ntmps26
    go_upto_region 1 with (fail)
    rw [← HW.out]
    go_wp2_with fail
    go_ret
    rw [HM.out]
    exact ⟨rfl, HB.out⟩
  by_cases m8 : 8 < s.made
  · have d0 : decide (s.made < 0) = false := decide_eq_false m0
    have d8 : decide (8 < s.made) = true := decide_eq_true m8
    have HM := Lib.hid (show mayS s = false from mayS_no (fun z => by omega))
    clear m0 m8
    go_enter Tryd.func26, Tryd.ntmps26
    go_upto_region 1 with (fail)
    rw [← HW.out]
    go_wp2_with fail
    go_ret
    rw [HM.out]
    exact ⟨rfl, HB.out⟩
  have d0 : decide (s.made < 0) = false := decide_eq_false m0
  have d8 : decide (8 < s.made) = false := decide_eq_false m8
  have HM := Lib.hid (show 0 ≤ s.made ∧ s.made ≤ 8 by omega)
  clear m0 m8
  go_enter Tryd.func26, Tryd.ntmps26
  go_upto_region 1 with (fail)
  rw [← HW.out]
  go_wp2_with fail
  clear x0 x1 x2
  go_loopg [21] 3 (fun mm y wr => ∃ (k : Nat), k ≤ 3 ∧ y = .int .i64 k ∧ mm = 3 - k ∧ (∀ i, i < k → okT s i = true) ∧ Below W0.heap.size W0 wr)
  case atStart => exact ⟨0, by omega, rfl, rfl, fun i hi => by omega, Below.refl _ _⟩
  case round =>
    obtain ⟨k, hk, rfl, hmm, hok, hbw⟩ := hrel
    have HMM := Lib.hid hmm
    have OK := Lib.hid hok
    have BW := Lib.hid hbw
    clear hmm hok hbw
    by_cases hlt : k < 3
    · have d3 : decide ((k : Int) < 3) = true := decide_eq_true (by omega)
      have ix := st_index s a k hlt wr
      obtain ⟨W2, st2, k2, b2, s2⟩ := bk_fresh (P := Tryd.prog) wr 26 #[.int .i8 0, .int .i64 0, .int .i64 0, .int .i64 0, .int .i64 0, .slice none 0 0, .slice none 0 0, .int .i64 0] #[.int .i8 (s.tid k).st, .int .i64 (s.tid k).pid, .int .i64 (s.tid k).ep, .int .i64 (s.tid k).tm, .int .i64 (s.tid k).th, .slice (a.A k) (s.tid k).ps.length (a.c k), .slice (a.D k) (s.tid k).qs.length (a.e k), .int .i64 (s.tid k).ag] 8 infoCoS rfl rfl (by simp [Value.oneCell'])
      have L2 := bk_load (P := Tryd.prog) 8 k2 rfl
      have BW2 := Lib.hid (BW.out.trans (b2.mono BW.out.size))
      have KX := Lib.hid k2
      have S2 := Lib.hid s2
      have MY := Lib.hid (May_any (s.tid k) (a.A k) (a.D k) (a.c k) (a.e k) B W2 ((H.out k hlt).below (HB.out.trans (BW2.out.mono HB.out.size) |>.mono HBB.out)) (by have := HBB.out; have := HB.out.size; have := BW2.out.size; omega))
      clear k2 b2 s2
      cases hmay : mayB (s.tid k)
      · rw [hmay] at MY
        have HNO := Lib.hid (show mayS s = false from mayS_noT hlt (by unfold okT; rw [hmay]; rfl))
        clear hmay
        go_wp2_with fail
        refine MY.out.mono ?_
        rintro e w3 ⟨rfl, b3⟩
        go_wp2_with fail
        go_ret
        rw [HNO.out]
        exact ⟨rfl, HB.out.trans ((BW2.out.trans (b3.mono BW2.out.size)).mono HB.out.size)⟩
      · rw [hmay] at MY
        have HMAY := Lib.hid hmay
        clear hmay
        obtain ⟨u, hu⟩ : ∃ u, decide (s.made < (s.tid k).pid) = u := ⟨_, rfl⟩
        go_wp2_with fail
        refine MY.out.mono ?_
        rintro e w3 ⟨rfl, b3⟩
        have k3 := KX.out.below b3 KX.out.lt
        have K3 := Lib.hid k3
        have BW3 := Lib.hid (BW2.out.trans (b3.mono BW2.out.size))
        have y1 := k3.cell 1
        have x0 := st_made (HK.out.below BW3.out HK.out.lt)
        clear k3 b3 L2 ix st2
        cases u
        · have HP := Lib.hid (show (s.tid k).pid ≤ s.made by have := of_decide_eq_false hu; omega)
          have i1 : (0 : Int) ≤ (k : Int) := by omega
          have i2 : (k : Int) ≤ 3 := by omega
          go_wp2_with fail
          clear x0 y1 hu i1 i2
          go_loopg [39] k (fun mm y wr => ∃ (j : Nat), j ≤ k ∧ y = .int .i64 j ∧ mm = k - j ∧ (∀ i, i < j → (s.tid k).pid = 0 ∨ (s.tid i).pid ≠ (s.tid k).pid) ∧ Below w3.heap.size w3 wr)
          case atStart => exact ⟨0, by omega, rfl, by omega, fun i hi => by omega, Below.refl _ _⟩
          case round =>
            obtain ⟨j, hj, rfl, hmj, hoj, hbv⟩ := hrel
            have HMJ := Lib.hid hmj
            have OJ := Lib.hid hoj
            have BV := Lib.hid hbv
            have BWV := Lib.hid (BW3.out.trans (hbv.mono BW3.out.size))
            clear hmj hoj hbv
            by_cases hjk : j < k
            · have dj : decide ((j : Int) < (k : Int)) = true := decide_eq_true (by omega)
              have i1 : (0 : Int) ≤ (j : Int) := by omega
              have i2 : (j : Int) < (k : Int) := by omega
              have ld := st_tid (HK.out.below BWV.out HK.out.lt) j (by omega)
              obtain ⟨W6, st6, k6, b6, s6⟩ := bk_fresh (P := Tryd.prog) wr 26 #[.int .i8 0, .int .i64 0, .int .i64 0, .int .i64 0, .int .i64 0, .slice none 0 0, .slice none 0 0, .int .i64 0] #[.int .i8 (s.tid j).st, .int .i64 (s.tid j).pid, .int .i64 (s.tid j).ep, .int .i64 (s.tid j).tm, .int .i64 (s.tid j).th, .slice (a.A j) (s.tid j).ps.length (a.c j), .slice (a.D j) (s.tid j).qs.length (a.e j), .int .i64 (s.tid j).ag] 8 infoCoS rfl rfl (by simp [Value.oneCell'])
              have z1 := k6.cell 1
              have k5 := K3.out.below (BV.out.trans (b6.mono BV.out.size)) K3.out.lt
              have y1 := k5.cell 1
              have B6 := Lib.hid (BV.out.trans (b6.mono BV.out.size))
              clear k6 b6 s6 k5
              obtain ⟨u1, hu1⟩ : ∃ u1, ((s.tid k).pid != 0) = u1 := ⟨_, rfl⟩
              obtain ⟨v1, hv1⟩ : ∃ v1, ((s.tid j).pid == (s.tid k).pid) = v1 := ⟨_, rfl⟩
              have HU := Lib.hid hu1
              have HV := Lib.hid hv1
              cases u1
              · go_wp2_with fail
                go_roundg (gk - 1)
                case measure => have := HMJ.out; omega
                case rel =>
                  refine ⟨j + 1, by omega, by go_num, by have := HMJ.out; omega, fun i hi => ?_, B6.out⟩
                  have := HU.out
                  exact .inl (by simpa using this)
              · cases v1
                · go_wp2_with fail
                  go_roundg (gk - 1)
                  case measure => have := HMJ.out; omega
                  case rel =>
                    refine ⟨j + 1, by omega, by go_num, by have := HMJ.out; omega, fun i hi => ?_, B6.out⟩
                    rcases Nat.lt_succ_iff_lt_or_eq.1 hi with h | h
                    · exact OJ.out i h
                    · have := HV.out
                      rw [h]
                      exact .inr (by simpa using this)
                · have HNO := Lib.hid (show mayS s = false from mayS_noT hlt (by
                    cases hk' : okT s k
                    · rfl
                    · rcases ((okT_iff s k).1 hk').2.2 j hjk with h | h
                      · have := HU.out; rw [h] at this; cases this
                      · have := HV.out; exact absurd (by simpa using this) h))
                  go_wp2_with fail
                  go_ret
                  rw [HNO.out]
                  exact ⟨rfl, HB.out.trans ((BW3.out.trans (B6.out.mono BW3.out.size)).mono HB.out.size)⟩
            · obtain rfl : j = k := by omega
              have dj : decide ((j : Int) < (j : Int)) = false := by simp
              go_wp2_with fail
              go_roundg (3 - j - 1)
              case measure => have := HMM.out; omega
              case rel =>
                refine ⟨j + 1, by omega, by go_num, by omega, fun i hi => ?_, BWV.out⟩
                rcases Nat.lt_succ_iff_lt_or_eq.1 hi with h | h
                · exact OK.out i h
                · rw [h]
                  exact (okT_iff s j).2 ⟨HMAY.out, HP.out, OJ.out⟩
        · have HNO := Lib.hid (show mayS s = false from mayS_noT hlt (by
            cases hk' : okT s k
            · rfl
            · have := ((okT_iff s k).1 hk').2.1; have := of_decide_eq_true hu; omega))
          go_wp2_with fail
          go_ret
          rw [HNO.out]
          exact ⟨rfl, HB.out.trans (BW3.out.mono HB.out.size)⟩
    · obtain rfl : k = 3 := by omega
      have d3 : decide (((3 : Nat) : Int) < 3) = false := by decide
      have HOK := Lib.hid OK.out
      have x2 := st_grs (HK.out.below BW.out HK.out.lt)
      go_wp2_with fail
      clear x2
      go_loopg [57] 2 (fun mm y wq => ∃ (g : Nat), g ≤ 2 ∧ y = .int .i64 g ∧ mm = 2 - g ∧ (∀ i, i < g * 3 → okG s i = true) ∧ Below wr.heap.size wr wq)
      case atStart => exact ⟨0, by omega, rfl, rfl, fun i hi => by omega, Below.refl _ _⟩
      case round =>
        obtain ⟨g, hg, rfl, hmg, hog, hbg⟩ := hrel
        have HMG := Lib.hid hmg
        have OG := Lib.hid hog
        have BG := Lib.hid hbg
        clear hmg hog hbg
        by_cases hlg : g < 2
        · have dg : decide ((g : Int) < 2) = true := decide_eq_true (by omega)
          have ig := gr_index s g hlg wr
          obtain ⟨W2, st2, k2, b2, s2⟩ := bk_fresh (P := Tryd.prog) wr 28 #[.int .i64 0, .int .i64 0, .int .i64 0] (grRow s g) 3 infoR3 rfl rfl (by simp [grRow, Value.oneCell'])
          have L2 := bk_load (P := Tryd.prog) 3 k2 rfl
          have BG2 := Lib.hid (BG.out.trans (b2.mono BG.out.size))
          clear k2 b2 s2
          go_wp2_with fail
          clear ig st2 L2
          go_loopg [61] 3 (fun mm y wr => ∃ (q : Nat), q ≤ 3 ∧ y = .int .i64 q ∧ mm = 3 - q ∧ (∀ i, i < g * 3 + q → okG s i = true) ∧ wr = W2)
          case atStart => exact ⟨0, by omega, rfl, rfl, OG.out, rfl⟩
          case round =>
            obtain ⟨q, hq, rfl, hmq, hoq, rfl⟩ := hrel
            have HMQ := Lib.hid hmq
            have OQ := Lib.hid hoq
            clear hmq hoq
            by_cases hlq : q < 3
            · have dq : decide ((q : Int) < 3) = true := decide_eq_true (by omega)
              have iq := row_index s g q hlq wr
              obtain ⟨u1, hu1⟩ : ∃ u1, decide (s.gr (g * 3 + q) < -1) = u1 := ⟨_, rfl⟩
              obtain ⟨v1, hv1⟩ : ∃ v1, decide (1048576 < s.gr (g * 3 + q)) = v1 := ⟨_, rfl⟩
              cases u1
              · cases v1
                · have HQ := Lib.hid (show okG s (g * 3 + q) = true by
                    unfold okG
                    have := of_decide_eq_false hu1
                    have := of_decide_eq_false hv1
                    rw [decide_eq_true (by omega), decide_eq_true (by omega)]; rfl)
                  go_wp2_with fail
                  go_roundg (gk - 1)
                  case measure => have := HMQ.out; omega
                  case rel =>
                    refine ⟨q + 1, by omega, by go_num, by have := HMQ.out; omega, fun i hi => ?_, rfl⟩
                    rcases Nat.lt_succ_iff_lt_or_eq.1 (show i < (g * 3 + q) + 1 by omega) with h | h
                    · exact OQ.out i h
                    · rw [h]; exact HQ.out
                · have HNO := Lib.hid (show mayS s = false from mayS_noG (g := g * 3 + q) (by omega) (by
                    unfold okG
                    have := of_decide_eq_true hv1
                    rw [decide_eq_false (p := s.gr (g * 3 + q) ≤ 1048576) (by omega), Bool.and_false]))
                  go_wp2_with fail
                  go_ret
                  rw [HNO.out]
                  exact ⟨rfl, HB.out.trans ((BW.out.trans (BG2.out.mono BW.out.size)).mono HB.out.size)⟩
              · have HNO := Lib.hid (show mayS s = false from mayS_noG (g := g * 3 + q) (by omega) (by
                  unfold okG
                  have := of_decide_eq_true hu1
                  rw [decide_eq_false (p := -1 ≤ s.gr (g * 3 + q)) (by omega), Bool.false_and]))
                go_wp2_with fail
                go_ret
                rw [HNO.out]
                exact ⟨rfl, HB.out.trans ((BW.out.trans (BG2.out.mono BW.out.size)).mono HB.out.size)⟩
            · obtain rfl : q = 3 := by omega
              have dq : decide (((3 : Nat) : Int) < 3) = false := by decide
              go_wp2_with fail
              go_roundg (2 - g - 1)
              case measure => have := HMG.out; omega
              case rel =>
                exact ⟨g + 1, by omega, by go_num, by omega, fun i hi => OQ.out i (by omega), BG2.out⟩
        · obtain rfl : g = 2 := by omega
          have dg : decide (((2 : Nat) : Int) < 2) = false := by decide
          have HYES := Lib.hid (show mayS s = true from (mayS_iff s).2 ⟨HM.out.1, HM.out.2, HOK.out, OG.out⟩)
          go_wp2_with fail
          go_ret
          rw [HYES.out]
          exact ⟨rfl, HB.out.trans ((BW.out.trans (BG.out.mono BW.out.size)).mono HB.out.size)⟩
end
end Go.Proofs.YtbpkckahonmpkaaDoor
namespace Go.Proofs.YtbpkckahonmpkaaDoor
open Go.RowKit
theorem stX_congr {s t : Sta} {a c : Sad} (hm : s.made = t.made) (hg : ∀ g, g < 6 → s.gr g = t.gr g) (ht : ∀ k, k < 3 → s.tid k = t.tid k) (hA : ∀ k, k < 3 → a.A k = c.A k ∧ a.D k = c.D k ∧ a.c k = c.c k ∧ a.e k = c.e k) : stX s a = stX t c := by
  have h := fun k hk => show coAt s a k = coAt t c k by unfold coAt; rw [ht k hk, (hA k hk).1, (hA k hk).2.1, (hA k hk).2.2.1, (hA k hk).2.2.2]
  unfold stX stL tidL grL
  rw [h 0 (by omega), h 1 (by omega), h 2 (by omega), hm, hg 0 (by omega), hg 1 (by omega), hg 2 (by omega), hg 3 (by omega), hg 4 (by omega), hg 5 (by omega)]
def Sta.put (s : Sta) (k : Nat) (c : Co) : Sta := { s with tid := fun j => if j = k then c else s.tid j }
def Sad.put (a : Sad) (k : Nat) (A D : Option Addr) (c e : Nat) : Sad := ⟨fun j => if j = k then A else a.A j, fun j => if j = k then D else a.D j, fun j => if j = k then c else a.c j, fun j => if j = k then e else a.e j⟩
theorem bkSet_mid : ∀ (vs mid pre post : List Value), mid.length = vs.length → bkSet (pre ++ (mid ++ post)).toArray pre.length vs = (pre ++ (vs ++ post)).toArray
  | [], mid, pre, post, h => by
    rw [List.length_eq_zero_iff.1 h]
    rfl
  | v :: vs, [], pre, post, h => by simp at h
  | v :: vs, z :: mid, pre, post, h => by
    rw [bkSet]
    have e : (pre ++ (z :: mid ++ post)).toArray.setIfInBounds pre.length v = ((pre ++ [v]) ++ (mid ++ post)).toArray := by
      rw [List.setIfInBounds_toArray]
      congr 1
      rw [List.set_append_right _ _ (Nat.le_refl _)]
      simp
    rw [e]
    have := bkSet_mid vs mid (pre ++ [v]) post (by simpa using h)
    rw [List.length_append, List.length_singleton] at this
    rw [this]
    simp
theorem blk_is {W : World} {b : Nat} {t : TypeId} {cs : Array Value} (h : Blk W b t cs) {j : Nat} (hj : j < cs.size) : (W.cell? ⟨b, j, none⟩).isSome = true ∧ W.frozen? ⟨b, j, none⟩ = false := by
  refine ⟨?_, h.frozen _⟩
  rw [h.cell, Array.getElem?_eq_getElem hj]
  rfl
theorem bk_put (s : Sta) (a : Sad) (k : Nat) (hk : k < 3) (d : Co) (A5 D5 : Option Addr) (c5 e5 : Nat) : bkSet (stX s a) (1 + k * 8) (coL d A5 D5 c5 e5) = stX (s.put k d) (a.put k A5 D5 c5 e5) := by
  match k, hk with
  | 0, _ =>
    have h := bkSet_mid (coL d A5 D5 c5 e5) (coAt s a 0) [.int .i64 s.made] (coAt s a 1 ++ (coAt s a 2 ++ grL s)) rfl
    unfold stX stL tidL
    rw [List.append_assoc, List.append_assoc]
    exact h
  | 1, _ =>
    have h := bkSet_mid (coL d A5 D5 c5 e5) (coAt s a 1) (.int .i64 s.made :: coAt s a 0) (coAt s a 2 ++ grL s) rfl
    unfold stX stL tidL
    rw [List.append_assoc, List.append_assoc]
    exact h
  | 2, _ =>
    have h := bkSet_mid (coL d A5 D5 c5 e5) (coAt s a 2) (.int .i64 s.made :: (coAt s a 0 ++ coAt s a 1)) (grL s) rfl
    unfold stX stL tidL
    rw [List.append_assoc, List.append_assoc]
    simp only [List.cons_append, List.append_assoc] at h ⊢
    exact h
theorem st_put {W : World} {b : Nat} {t : TypeId} {s : Sta} {a : Sad} (h : Blk W b t (stX s a)) (k : Nat) (hk : k < 3) (d : Co) (A5 D5 : Option Addr) (c5 e5 : Nat) :
    ∃ W', (storeVar 26 ⟨b, 1 + k * 8, none⟩ (.agg #[.int .i8 d.st, .int .i64 d.pid, .int .i64 d.ep, .int .i64 d.tm, .int .i64 d.th, .slice A5 d.ps.length c5, .slice D5 d.qs.length e5, .int .i64 d.ag])).run Tryd.prog W = .ok () W' ∧ Blk W' b t (stX (s.put k d) (a.put k A5 D5 c5 e5)) ∧ (∀ m (w : World), m ≤ b → Below m w W → Below m w W') ∧ (∀ y, y ≠ b → W'.heap[y]? = W.heap[y]?) ∧ W'.heap.size = W.heap.size := by
  refine ⟨_, run_storeVar_mid W b (1 + k * 8) 26 #[.int .i8 d.st, .int .i64 d.pid, .int .i64 d.ep, .int .i64 d.tm, .int .i64 d.th, .slice A5 d.ps.length c5, .slice D5 d.qs.length e5, .int .i64 d.ag] (fun j hj => ?_) (by rw [infoCoS]; rfl) (by simp [Value.oneCell']), ?_, fun m w hb hB => bk_setCells_below hb _ _ _ hB, fun y hy => bk_setCells_heap b _ _ _ y hy, bk_setCells_size ..⟩
  · have h8 : j < 8 := hj
    exact blk_is h (by rw [stX_size]; omega)
  · rw [← bk_put s a k hk]
    exact bk_setCells (coL d A5 D5 c5 e5) (1 + k * 8) _ _ h
theorem reads_keepS {w w' : World} {B size n : Nat} {A : Option Addr} {xs : List Value} (h : Reads w B size A n xs) (hA : 0 < n → ∀ ad, A = some ad → w'.heap[ad.block]? = w.heap[ad.block]?) : Reads w' B size A n xs :=
  ⟨h.1, fun hn => by
    obtain ⟨ad, rfl, hb, hc⟩ := h.2 hn
    refine ⟨ad, rfl, hb, fun j u hu => ?_⟩
    rw [← hc j u hu]
    exact World.cell?_of_block (by rw [block_of_add]; exact hA hn ad rfl)⟩
theorem newAt_blockS {lo n : Nat} {A : Option Addr} (h : NewAt lo n A) (hn : 0 < n) {ad : Addr} (e : A = some ad) : lo ≤ ad.block := by
  obtain ⟨x, hx, hb⟩ := h hn
  rw [e] at hx
  injection hx with hx
  subst hx
  exact hb
/-- The lists of a transactional id keep, where one block below them is filled anew. -/
theorem CoR.keepN {w w' : World} {c : Co} {A D : Option Addr} {lo b : Nat} (h : CoR w w.heap.size c A D) (f : NewAt lo c.ps.length A) (g : NewAt lo c.qs.length D) (hb : b < lo) (k : ∀ y, y ≠ b → w'.heap[y]? = w.heap[y]?) (hs : w'.heap.size = w.heap.size) : CoR w' w'.heap.size c A D := by
  rw [hs]
  exact ⟨reads_keepS h.1 (fun hn ad e => k _ (by have := newAt_blockS f hn e; omega)), reads_keepS h.2.1 (fun hn ad e => k _ (by have := newAt_blockS g hn e; omega)), h.2.2⟩
theorem store_intS {W : World} {a : Addr} {u : Value} (k : Int) (h : W.cell? a = some u) (hf : W.frozen? a = false) : (storeVar 3 a (.int .i64 k)).run Tryd.prog W = .ok () (W.setCell a (.int .i64 k)) := by
  simp [go_sem, h, hf]
section
attribute [-go_sem] loadCells storeVar
end
end Go.Proofs.YtbpkckahonmpkaaDoor
namespace Go.Proofs.YtbpkckahonmpkaaDoor
open Go.RowKit
/-- A state that is returned. -/
def StPost (t : Sta) (w : World) (e : Ending) (w' : World) : Prop :=
  ∃ a, e = .returned (.agg (stX t a)) ∧ StR w' w'.heap.size t a ∧ Below w.heap.size w w'
/-- .. its lists are new. -/
def StNew (t : Sta) (w : World) (e : Ending) (w' : World) : Prop :=
  ∃ a, e = .returned (.agg (stX t a)) ∧ StR w' w'.heap.size t a ∧ Below w.heap.size w w' ∧ ∀ k, k < 3 → NewAt w.heap.size (t.tid k).ps.length (a.A k) ∧ NewAt w.heap.size (t.tid k).qs.length (a.D k)
section
attribute [-go_sem] loadCells storeVar
end
end Go.Proofs.YtbpkckahonmpkaaDoor
