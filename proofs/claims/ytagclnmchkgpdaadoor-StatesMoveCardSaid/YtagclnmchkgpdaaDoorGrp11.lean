/-
  Layer 18: states.Init.
-/
import Derived.Test.YtagclnmchkgpdaaDoorGrp10
set_option linter.unusedVariables false
set_option linter.unusedSimpArgs false
namespace Go.Proofs.YtagclnmchkgpdaaDoor
open Go.RowKit

/-- What a move gives: a transactional id in new memory, and a code. -/
def MvPost (d : Co) (code : Int) (w : World) (e : Ending) (w' : World) : Prop :=
  ∃ (A1 D1 : Option Addr) (c1 e1 : Nat), e = .returned (.tuple #[(.agg #[.int .i8 d.st, .int .i64 d.pid, .int .i64 d.ep, .int .i64 d.tm, .int .i64 d.th, .slice A1 d.ps.length c1, .slice D1 d.qs.length e1, .int .i64 d.ag]), .int .i64 code]) ∧ CoR w' w'.heap.size d A1 D1 ∧ Below w.heap.size w w' ∧ NewAt w.heap.size d.ps.length A1 ∧ NewAt w.heap.size d.qs.length D1

noncomputable def initE (c : Co) (pid tm : Int) : Int :=
  if ¬ (1 ≤ pid ∧ pid ≤ 8 ∧ 1 ≤ tm ∧ tm ≤ 20) then 2 else if ¬ chkE c 0 true = 0 then chkE c 0 true else if 100 ≤ c.ep then 102 else 0
noncomputable def initC (c : Co) (pid tm : Int) : Co :=
  if initE c pid tm = 0 then (if c.st = 0 then ⟨1, pid, 0, tm, 0, [], [], 0⟩ else ⟨1, c.pid, c.ep + 1, tm, 0, [], [], 0⟩) else Co0

set_option maxRecDepth 100000 in
set_option maxHeartbeats 1000000 in
theorem Init_a (c : Co) (A1 D1 : Option Addr) (c1 e1 : Nat) (pid tm : Int) (w : World) (h1 : CoR w w.heap.size c A1 D1) (hg : HasET w) (k1 : pid < 1) :
    Calls Tryd.prog 23 #[(.agg #[.int .i8 c.st, .int .i64 c.pid, .int .i64 c.ep, .int .i64 c.tm, .int .i64 c.th, .slice A1 c.ps.length c1, .slice D1 c.qs.length e1, .int .i64 c.ag]), .int .i64 pid, .int .i64 tm] w (MvPost (initC c pid tm) (initE c pid tm) w) := by
  have he : initE c pid tm = 2 := by unfold initE; rw [if_pos (by omega)]
  have hco : initC c pid tm = Co0 := by unfold initC; rw [he, if_neg (by decide)]
  have HE := Lib.hid he
  have HCO := Lib.hid hco
  have hck : chkE c 0 false = 2 := by unfold chkE; simp
  have HCK := Lib.hid hck
  have d0 : decide (1 ≤ pid) = false := decide_eq_false (by omega)
  have h2 := (h1.al (.cells #[.int .i8 c.st, .int .i64 c.pid, .int .i64 c.ep, .int .i64 c.tm, .int .i64 c.th, .slice A1 c.ps.length c1, .slice D1 c.qs.length e1, .int .i64 c.ag] 26)).al (.cells #[.int .i8 0, .int .i64 0, .int .i64 0, .int .i64 0, .int .i64 0, .slice none 0 0, .slice none 0 0, .int .i64 0] 26)
  have hc := check_any c A1 D1 c1 e1 0 false _ _ h2 (Nat.le_refl _)
  have HC := Lib.hid hc
  have HB := Lib.hid (bal (bal (Below.refl w.heap.size w) (.cells #[.int .i8 c.st, .int .i64 c.pid, .int .i64 c.ep, .int .i64 c.tm, .int .i64 c.th, .slice A1 c.ps.length c1, .slice D1 c.qs.length e1, .int .i64 c.ag] 26)) (.cells #[.int .i8 0, .int .i64 0, .int .i64 0, .int .i64 0, .int .i64 0, .slice none 0 0, .slice none 0 0, .int .i64 0] 26))
  have K1 := Lib.hid ((Blk.new w 26 #[.int .i8 c.st, .int .i64 c.pid, .int .i64 c.ep, .int .i64 c.tm, .int .i64 c.th, .slice A1 c.ps.length c1, .slice D1 c.qs.length e1, .int .i64 c.ag]).alloc (.cells #[.int .i8 0, .int .i64 0, .int .i64 0, .int .i64 0, .int .i64 0, .slice none 0 0, .slice none 0 0, .int .i64 0] 26))
  have kk := Blk.new (w.alloc (.cells #[.int .i8 c.st, .int .i64 c.pid, .int .i64 c.ep, .int .i64 c.tm, .int .i64 c.th, .slice A1 c.ps.length c1, .slice D1 c.qs.length e1, .int .i64 c.ag] 26)) 26 #[.int .i8 0, .int .i64 0, .int .i64 0, .int .i64 0, .int .i64 0, .slice none 0 0, .slice none 0 0, .int .i64 0]
  rw [World.size_alloc] at kk
  have K2 := Lib.hid kk
  have HG := Lib.hid hg
  clear h2 hc kk h1 hg k1 he hco hck
  go_enter Tryd.func23, Tryd.ntmps23
  go_wp2_with fail
  refine HC.out.mono ?_
  rintro e w2 ⟨b2, hres⟩
  obtain ⟨b, rfl, hc2, hbge, hblt⟩ : FaultAt 2 _ e w2 := by
    rcases hres with ⟨hz, _⟩ | ⟨_, hf⟩
    · rw [HCK.out] at hz; cases hz
    · rw [HCK.out] at hf; exact hf
  clear hres
  have hz2 := b2.size
  simp only [World.size_alloc] at hz2
  have bf := btrans HB.out b2
  have hcode := code_fault b 2 w2 (HG.out.up bf) hc2
  have H2E := Lib.hid hcode
  have HC2 := Lib.hid hc2
  clear hcode hc2
  go_wp2_with fail
  refine H2E.out.mono ?_
  rintro e w3 ⟨rfl, b3⟩
  have k6 := (K2.out.below b2 (by simp only [World.size_alloc]; omega)).below b3 (by omega)
  have y0 := k6.cell 0
  have z0 := k6.frozen 0
  have y1 := k6.cell 1
  have z1 := k6.frozen 1
  have y2 := k6.cell 2
  have z2 := k6.frozen 2
  have y3 := k6.cell 3
  have z3 := k6.frozen 3
  have y4 := k6.cell 4
  have z4 := k6.frozen 4
  have y5 := k6.cell 5
  have z5 := k6.frozen 5
  have y6 := k6.cell 6
  have z6 := k6.frozen 6
  have y7 := k6.cell 7
  have z7 := k6.frozen 7
  have bg := btrans bf b3
  have hz3 := b3.size
  go_wp2_with fail
  refine bodyPost_ret (v := .tuple #[.agg #[.int .i8 0, .int .i64 0, .int .i64 0, .int .i64 0, .int .i64 0, .slice none 0 0, .slice none 0 0, .int .i64 0], .int .i64 2]) (by simp [results, Tryd.results23, go_sem, y0, y1, y2, y3, y4, y5, y6, y7]) rfl ?_
  rw [HE.out, HCO.out]
  exact ⟨none, none, 0, 0, rfl, CoR.zero _ _ _ _, (bset (bset (bset (bset (bset (bset (bset (bset bg (by omega) _) (by omega) _) (by omega) _) (by omega) _) (by omega) _) (by omega) _) (by omega) _) (by omega) _), NewAt.none_, NewAt.none_⟩

set_option maxRecDepth 100000 in
set_option maxHeartbeats 1000000 in
theorem Init_b (c : Co) (A1 D1 : Option Addr) (c1 e1 : Nat) (pid tm : Int) (w : World) (h1 : CoR w w.heap.size c A1 D1) (hg : HasET w) (k1 : 8 < pid) :
    Calls Tryd.prog 23 #[(.agg #[.int .i8 c.st, .int .i64 c.pid, .int .i64 c.ep, .int .i64 c.tm, .int .i64 c.th, .slice A1 c.ps.length c1, .slice D1 c.qs.length e1, .int .i64 c.ag]), .int .i64 pid, .int .i64 tm] w (MvPost (initC c pid tm) (initE c pid tm) w) := by
  have he : initE c pid tm = 2 := by unfold initE; rw [if_pos (by omega)]
  have hco : initC c pid tm = Co0 := by unfold initC; rw [he, if_neg (by decide)]
  have HE := Lib.hid he
  have HCO := Lib.hid hco
  have hck : chkE c 0 false = 2 := by unfold chkE; simp
  have HCK := Lib.hid hck
  have d0 : decide (1 ≤ pid) = true := decide_eq_true (by omega)
  have d1 : decide (pid ≤ 8) = false := decide_eq_false (by omega)
  have h2 := (h1.al (.cells #[.int .i8 c.st, .int .i64 c.pid, .int .i64 c.ep, .int .i64 c.tm, .int .i64 c.th, .slice A1 c.ps.length c1, .slice D1 c.qs.length e1, .int .i64 c.ag] 26)).al (.cells #[.int .i8 0, .int .i64 0, .int .i64 0, .int .i64 0, .int .i64 0, .slice none 0 0, .slice none 0 0, .int .i64 0] 26)
  have hc := check_any c A1 D1 c1 e1 0 false _ _ h2 (Nat.le_refl _)
  have HC := Lib.hid hc
  have HB := Lib.hid (bal (bal (Below.refl w.heap.size w) (.cells #[.int .i8 c.st, .int .i64 c.pid, .int .i64 c.ep, .int .i64 c.tm, .int .i64 c.th, .slice A1 c.ps.length c1, .slice D1 c.qs.length e1, .int .i64 c.ag] 26)) (.cells #[.int .i8 0, .int .i64 0, .int .i64 0, .int .i64 0, .int .i64 0, .slice none 0 0, .slice none 0 0, .int .i64 0] 26))
  have K1 := Lib.hid ((Blk.new w 26 #[.int .i8 c.st, .int .i64 c.pid, .int .i64 c.ep, .int .i64 c.tm, .int .i64 c.th, .slice A1 c.ps.length c1, .slice D1 c.qs.length e1, .int .i64 c.ag]).alloc (.cells #[.int .i8 0, .int .i64 0, .int .i64 0, .int .i64 0, .int .i64 0, .slice none 0 0, .slice none 0 0, .int .i64 0] 26))
  have kk := Blk.new (w.alloc (.cells #[.int .i8 c.st, .int .i64 c.pid, .int .i64 c.ep, .int .i64 c.tm, .int .i64 c.th, .slice A1 c.ps.length c1, .slice D1 c.qs.length e1, .int .i64 c.ag] 26)) 26 #[.int .i8 0, .int .i64 0, .int .i64 0, .int .i64 0, .int .i64 0, .slice none 0 0, .slice none 0 0, .int .i64 0]
  rw [World.size_alloc] at kk
  have K2 := Lib.hid kk
  have HG := Lib.hid hg
  clear h2 hc kk h1 hg k1 he hco hck
  go_enter Tryd.func23, Tryd.ntmps23
  go_wp2_with fail
  refine HC.out.mono ?_
  rintro e w2 ⟨b2, hres⟩
  obtain ⟨b, rfl, hc2, hbge, hblt⟩ : FaultAt 2 _ e w2 := by
    rcases hres with ⟨hz, _⟩ | ⟨_, hf⟩
    · rw [HCK.out] at hz; cases hz
    · rw [HCK.out] at hf; exact hf
  clear hres
  have hz2 := b2.size
  simp only [World.size_alloc] at hz2
  have bf := btrans HB.out b2
  have hcode := code_fault b 2 w2 (HG.out.up bf) hc2
  have H2E := Lib.hid hcode
  have HC2 := Lib.hid hc2
  clear hcode hc2
  go_wp2_with fail
  refine H2E.out.mono ?_
  rintro e w3 ⟨rfl, b3⟩
  have k6 := (K2.out.below b2 (by simp only [World.size_alloc]; omega)).below b3 (by omega)
  have y0 := k6.cell 0
  have z0 := k6.frozen 0
  have y1 := k6.cell 1
  have z1 := k6.frozen 1
  have y2 := k6.cell 2
  have z2 := k6.frozen 2
  have y3 := k6.cell 3
  have z3 := k6.frozen 3
  have y4 := k6.cell 4
  have z4 := k6.frozen 4
  have y5 := k6.cell 5
  have z5 := k6.frozen 5
  have y6 := k6.cell 6
  have z6 := k6.frozen 6
  have y7 := k6.cell 7
  have z7 := k6.frozen 7
  have bg := btrans bf b3
  have hz3 := b3.size
  go_wp2_with fail
  refine bodyPost_ret (v := .tuple #[.agg #[.int .i8 0, .int .i64 0, .int .i64 0, .int .i64 0, .int .i64 0, .slice none 0 0, .slice none 0 0, .int .i64 0], .int .i64 2]) (by simp [results, Tryd.results23, go_sem, y0, y1, y2, y3, y4, y5, y6, y7]) rfl ?_
  rw [HE.out, HCO.out]
  exact ⟨none, none, 0, 0, rfl, CoR.zero _ _ _ _, (bset (bset (bset (bset (bset (bset (bset (bset bg (by omega) _) (by omega) _) (by omega) _) (by omega) _) (by omega) _) (by omega) _) (by omega) _) (by omega) _), NewAt.none_, NewAt.none_⟩

set_option maxRecDepth 100000 in
set_option maxHeartbeats 1000000 in
theorem Init_c (c : Co) (A1 D1 : Option Addr) (c1 e1 : Nat) (pid tm : Int) (w : World) (h1 : CoR w w.heap.size c A1 D1) (hg : HasET w) (k1 : 1 ≤ pid ∧ pid ≤ 8 ∧ tm < 1) :
    Calls Tryd.prog 23 #[(.agg #[.int .i8 c.st, .int .i64 c.pid, .int .i64 c.ep, .int .i64 c.tm, .int .i64 c.th, .slice A1 c.ps.length c1, .slice D1 c.qs.length e1, .int .i64 c.ag]), .int .i64 pid, .int .i64 tm] w (MvPost (initC c pid tm) (initE c pid tm) w) := by
  have he : initE c pid tm = 2 := by unfold initE; rw [if_pos (by omega)]
  have hco : initC c pid tm = Co0 := by unfold initC; rw [he, if_neg (by decide)]
  have HE := Lib.hid he
  have HCO := Lib.hid hco
  have hck : chkE c 0 false = 2 := by unfold chkE; simp
  have HCK := Lib.hid hck
  have d0 : decide (1 ≤ pid) = true := decide_eq_true (by omega)
  have d1 : decide (pid ≤ 8) = true := decide_eq_true (by omega)
  have d2 : decide (1 ≤ tm) = false := decide_eq_false (by omega)
  have h2 := (h1.al (.cells #[.int .i8 c.st, .int .i64 c.pid, .int .i64 c.ep, .int .i64 c.tm, .int .i64 c.th, .slice A1 c.ps.length c1, .slice D1 c.qs.length e1, .int .i64 c.ag] 26)).al (.cells #[.int .i8 0, .int .i64 0, .int .i64 0, .int .i64 0, .int .i64 0, .slice none 0 0, .slice none 0 0, .int .i64 0] 26)
  have hc := check_any c A1 D1 c1 e1 0 false _ _ h2 (Nat.le_refl _)
  have HC := Lib.hid hc
  have HB := Lib.hid (bal (bal (Below.refl w.heap.size w) (.cells #[.int .i8 c.st, .int .i64 c.pid, .int .i64 c.ep, .int .i64 c.tm, .int .i64 c.th, .slice A1 c.ps.length c1, .slice D1 c.qs.length e1, .int .i64 c.ag] 26)) (.cells #[.int .i8 0, .int .i64 0, .int .i64 0, .int .i64 0, .int .i64 0, .slice none 0 0, .slice none 0 0, .int .i64 0] 26))
  have K1 := Lib.hid ((Blk.new w 26 #[.int .i8 c.st, .int .i64 c.pid, .int .i64 c.ep, .int .i64 c.tm, .int .i64 c.th, .slice A1 c.ps.length c1, .slice D1 c.qs.length e1, .int .i64 c.ag]).alloc (.cells #[.int .i8 0, .int .i64 0, .int .i64 0, .int .i64 0, .int .i64 0, .slice none 0 0, .slice none 0 0, .int .i64 0] 26))
  have kk := Blk.new (w.alloc (.cells #[.int .i8 c.st, .int .i64 c.pid, .int .i64 c.ep, .int .i64 c.tm, .int .i64 c.th, .slice A1 c.ps.length c1, .slice D1 c.qs.length e1, .int .i64 c.ag] 26)) 26 #[.int .i8 0, .int .i64 0, .int .i64 0, .int .i64 0, .int .i64 0, .slice none 0 0, .slice none 0 0, .int .i64 0]
  rw [World.size_alloc] at kk
  have K2 := Lib.hid kk
  have HG := Lib.hid hg
  clear h2 hc kk h1 hg k1 he hco hck
  go_enter Tryd.func23, Tryd.ntmps23
  go_wp2_with fail
  refine HC.out.mono ?_
  rintro e w2 ⟨b2, hres⟩
  obtain ⟨b, rfl, hc2, hbge, hblt⟩ : FaultAt 2 _ e w2 := by
    rcases hres with ⟨hz, _⟩ | ⟨_, hf⟩
    · rw [HCK.out] at hz; cases hz
    · rw [HCK.out] at hf; exact hf
  clear hres
  have hz2 := b2.size
  simp only [World.size_alloc] at hz2
  have bf := btrans HB.out b2
  have hcode := code_fault b 2 w2 (HG.out.up bf) hc2
  have H2E := Lib.hid hcode
  have HC2 := Lib.hid hc2
  clear hcode hc2
  go_wp2_with fail
  refine H2E.out.mono ?_
  rintro e w3 ⟨rfl, b3⟩
  have k6 := (K2.out.below b2 (by simp only [World.size_alloc]; omega)).below b3 (by omega)
  have y0 := k6.cell 0
  have z0 := k6.frozen 0
  have y1 := k6.cell 1
  have z1 := k6.frozen 1
  have y2 := k6.cell 2
  have z2 := k6.frozen 2
  have y3 := k6.cell 3
  have z3 := k6.frozen 3
  have y4 := k6.cell 4
  have z4 := k6.frozen 4
  have y5 := k6.cell 5
  have z5 := k6.frozen 5
  have y6 := k6.cell 6
  have z6 := k6.frozen 6
  have y7 := k6.cell 7
  have z7 := k6.frozen 7
  have bg := btrans bf b3
  have hz3 := b3.size
  go_wp2_with fail
  refine bodyPost_ret (v := .tuple #[.agg #[.int .i8 0, .int .i64 0, .int .i64 0, .int .i64 0, .int .i64 0, .slice none 0 0, .slice none 0 0, .int .i64 0], .int .i64 2]) (by simp [results, Tryd.results23, go_sem, y0, y1, y2, y3, y4, y5, y6, y7]) rfl ?_
  rw [HE.out, HCO.out]
  exact ⟨none, none, 0, 0, rfl, CoR.zero _ _ _ _, (bset (bset (bset (bset (bset (bset (bset (bset bg (by omega) _) (by omega) _) (by omega) _) (by omega) _) (by omega) _) (by omega) _) (by omega) _) (by omega) _), NewAt.none_, NewAt.none_⟩

set_option maxRecDepth 100000 in
set_option maxHeartbeats 1000000 in
theorem Init_d (c : Co) (A1 D1 : Option Addr) (c1 e1 : Nat) (pid tm : Int) (w : World) (h1 : CoR w w.heap.size c A1 D1) (hg : HasET w) (k1 : 1 ≤ pid ∧ pid ≤ 8 ∧ 20 < tm) :
    Calls Tryd.prog 23 #[(.agg #[.int .i8 c.st, .int .i64 c.pid, .int .i64 c.ep, .int .i64 c.tm, .int .i64 c.th, .slice A1 c.ps.length c1, .slice D1 c.qs.length e1, .int .i64 c.ag]), .int .i64 pid, .int .i64 tm] w (MvPost (initC c pid tm) (initE c pid tm) w) := by
  have he : initE c pid tm = 2 := by unfold initE; rw [if_pos (by omega)]
  have hco : initC c pid tm = Co0 := by unfold initC; rw [he, if_neg (by decide)]
  have HE := Lib.hid he
  have HCO := Lib.hid hco
  have hck : chkE c 0 false = 2 := by unfold chkE; simp
  have HCK := Lib.hid hck
  have d0 : decide (1 ≤ pid) = true := decide_eq_true (by omega)
  have d1 : decide (pid ≤ 8) = true := decide_eq_true (by omega)
  have d2 : decide (1 ≤ tm) = true := decide_eq_true (by omega)
  have d3 : decide (tm ≤ 20) = false := decide_eq_false (by omega)
  have h2 := (h1.al (.cells #[.int .i8 c.st, .int .i64 c.pid, .int .i64 c.ep, .int .i64 c.tm, .int .i64 c.th, .slice A1 c.ps.length c1, .slice D1 c.qs.length e1, .int .i64 c.ag] 26)).al (.cells #[.int .i8 0, .int .i64 0, .int .i64 0, .int .i64 0, .int .i64 0, .slice none 0 0, .slice none 0 0, .int .i64 0] 26)
  have hc := check_any c A1 D1 c1 e1 0 false _ _ h2 (Nat.le_refl _)
  have HC := Lib.hid hc
  have HB := Lib.hid (bal (bal (Below.refl w.heap.size w) (.cells #[.int .i8 c.st, .int .i64 c.pid, .int .i64 c.ep, .int .i64 c.tm, .int .i64 c.th, .slice A1 c.ps.length c1, .slice D1 c.qs.length e1, .int .i64 c.ag] 26)) (.cells #[.int .i8 0, .int .i64 0, .int .i64 0, .int .i64 0, .int .i64 0, .slice none 0 0, .slice none 0 0, .int .i64 0] 26))
  have K1 := Lib.hid ((Blk.new w 26 #[.int .i8 c.st, .int .i64 c.pid, .int .i64 c.ep, .int .i64 c.tm, .int .i64 c.th, .slice A1 c.ps.length c1, .slice D1 c.qs.length e1, .int .i64 c.ag]).alloc (.cells #[.int .i8 0, .int .i64 0, .int .i64 0, .int .i64 0, .int .i64 0, .slice none 0 0, .slice none 0 0, .int .i64 0] 26))
  have kk := Blk.new (w.alloc (.cells #[.int .i8 c.st, .int .i64 c.pid, .int .i64 c.ep, .int .i64 c.tm, .int .i64 c.th, .slice A1 c.ps.length c1, .slice D1 c.qs.length e1, .int .i64 c.ag] 26)) 26 #[.int .i8 0, .int .i64 0, .int .i64 0, .int .i64 0, .int .i64 0, .slice none 0 0, .slice none 0 0, .int .i64 0]
  rw [World.size_alloc] at kk
  have K2 := Lib.hid kk
  have HG := Lib.hid hg
  clear h2 hc kk h1 hg k1 he hco hck
  go_enter Tryd.func23, Tryd.ntmps23
  go_wp2_with fail
  refine HC.out.mono ?_
  rintro e w2 ⟨b2, hres⟩
  obtain ⟨b, rfl, hc2, hbge, hblt⟩ : FaultAt 2 _ e w2 := by
    rcases hres with ⟨hz, _⟩ | ⟨_, hf⟩
    · rw [HCK.out] at hz; cases hz
    · rw [HCK.out] at hf; exact hf
  clear hres
  have hz2 := b2.size
  simp only [World.size_alloc] at hz2
  have bf := btrans HB.out b2
  have hcode := code_fault b 2 w2 (HG.out.up bf) hc2
  have H2E := Lib.hid hcode
  have HC2 := Lib.hid hc2
  clear hcode hc2
  go_wp2_with fail
  refine H2E.out.mono ?_
  rintro e w3 ⟨rfl, b3⟩
  have k6 := (K2.out.below b2 (by simp only [World.size_alloc]; omega)).below b3 (by omega)
  have y0 := k6.cell 0
  have z0 := k6.frozen 0
  have y1 := k6.cell 1
  have z1 := k6.frozen 1
  have y2 := k6.cell 2
  have z2 := k6.frozen 2
  have y3 := k6.cell 3
  have z3 := k6.frozen 3
  have y4 := k6.cell 4
  have z4 := k6.frozen 4
  have y5 := k6.cell 5
  have z5 := k6.frozen 5
  have y6 := k6.cell 6
  have z6 := k6.frozen 6
  have y7 := k6.cell 7
  have z7 := k6.frozen 7
  have bg := btrans bf b3
  have hz3 := b3.size
  go_wp2_with fail
  refine bodyPost_ret (v := .tuple #[.agg #[.int .i8 0, .int .i64 0, .int .i64 0, .int .i64 0, .int .i64 0, .slice none 0 0, .slice none 0 0, .int .i64 0], .int .i64 2]) (by simp [results, Tryd.results23, go_sem, y0, y1, y2, y3, y4, y5, y6, y7]) rfl ?_
  rw [HE.out, HCO.out]
  exact ⟨none, none, 0, 0, rfl, CoR.zero _ _ _ _, (bset (bset (bset (bset (bset (bset (bset (bset bg (by omega) _) (by omega) _) (by omega) _) (by omega) _) (by omega) _) (by omega) _) (by omega) _) (by omega) _), NewAt.none_, NewAt.none_⟩

set_option maxRecDepth 100000 in
set_option maxHeartbeats 1000000 in
theorem Init_e (c : Co) (A1 D1 : Option Addr) (c1 e1 : Nat) (pid tm : Int) (w : World) (h1 : CoR w w.heap.size c A1 D1) (hg : HasET w) (k1 : 1 ≤ pid ∧ pid ≤ 8 ∧ 1 ≤ tm ∧ tm ≤ 20) (k2 : ¬ chkE c 0 true = 0) :
    Calls Tryd.prog 23 #[(.agg #[.int .i8 c.st, .int .i64 c.pid, .int .i64 c.ep, .int .i64 c.tm, .int .i64 c.th, .slice A1 c.ps.length c1, .slice D1 c.qs.length e1, .int .i64 c.ag]), .int .i64 pid, .int .i64 tm] w (MvPost (initC c pid tm) (initE c pid tm) w) := by
  obtain ⟨n, hn⟩ : ∃ n, chkE c 0 true = n := ⟨_, rfl⟩
  have he : initE c pid tm = n := by unfold initE; rw [if_neg (by omega), if_pos k2, hn]
  have hco : initC c pid tm = Co0 := by unfold initC; rw [he, if_neg (by rw [← hn]; exact k2)]
  have HE := Lib.hid he
  have HCO := Lib.hid hco
  have HCK := Lib.hid hn
  have HK2 := Lib.hid k2
  have d0 : decide (1 ≤ pid) = true := decide_eq_true (by omega)
  have d1 : decide (pid ≤ 8) = true := decide_eq_true (by omega)
  have d2 : decide (1 ≤ tm) = true := decide_eq_true (by omega)
  have d3 : decide (tm ≤ 20) = true := decide_eq_true (by omega)
  have h2 := (h1.al (.cells #[.int .i8 c.st, .int .i64 c.pid, .int .i64 c.ep, .int .i64 c.tm, .int .i64 c.th, .slice A1 c.ps.length c1, .slice D1 c.qs.length e1, .int .i64 c.ag] 26)).al (.cells #[.int .i8 0, .int .i64 0, .int .i64 0, .int .i64 0, .int .i64 0, .slice none 0 0, .slice none 0 0, .int .i64 0] 26)
  have hc := check_any c A1 D1 c1 e1 0 true _ _ h2 (Nat.le_refl _)
  have HC := Lib.hid hc
  have HB := Lib.hid (bal (bal (Below.refl w.heap.size w) (.cells #[.int .i8 c.st, .int .i64 c.pid, .int .i64 c.ep, .int .i64 c.tm, .int .i64 c.th, .slice A1 c.ps.length c1, .slice D1 c.qs.length e1, .int .i64 c.ag] 26)) (.cells #[.int .i8 0, .int .i64 0, .int .i64 0, .int .i64 0, .int .i64 0, .slice none 0 0, .slice none 0 0, .int .i64 0] 26))
  have K1 := Lib.hid ((Blk.new w 26 #[.int .i8 c.st, .int .i64 c.pid, .int .i64 c.ep, .int .i64 c.tm, .int .i64 c.th, .slice A1 c.ps.length c1, .slice D1 c.qs.length e1, .int .i64 c.ag]).alloc (.cells #[.int .i8 0, .int .i64 0, .int .i64 0, .int .i64 0, .int .i64 0, .slice none 0 0, .slice none 0 0, .int .i64 0] 26))
  have kk := Blk.new (w.alloc (.cells #[.int .i8 c.st, .int .i64 c.pid, .int .i64 c.ep, .int .i64 c.tm, .int .i64 c.th, .slice A1 c.ps.length c1, .slice D1 c.qs.length e1, .int .i64 c.ag] 26)) 26 #[.int .i8 0, .int .i64 0, .int .i64 0, .int .i64 0, .int .i64 0, .slice none 0 0, .slice none 0 0, .int .i64 0]
  rw [World.size_alloc] at kk
  have K2 := Lib.hid kk
  have HG := Lib.hid hg
  clear h2 hc kk h1 hg k1 k2 he hco hn
  go_enter Tryd.func23, Tryd.ntmps23
  go_wp2_with fail
  refine HC.out.mono ?_
  rintro e w2 ⟨b2, hres⟩
  obtain ⟨b, rfl, hc2, hbge, hblt⟩ : FaultAt n _ e w2 := by
    rcases hres with ⟨hz, _⟩ | ⟨_, hf⟩
    · exact absurd hz HK2.out
    · rw [HCK.out] at hf; exact hf
  clear hres
  have hz2 := b2.size
  simp only [World.size_alloc] at hz2
  have bf := btrans HB.out b2
  have hcode := code_fault b n w2 (HG.out.up bf) hc2
  have HnE := Lib.hid hcode
  have HC2 := Lib.hid hc2
  clear hcode hc2
  go_wp2_with fail
  refine HnE.out.mono ?_
  rintro e w3 ⟨rfl, b3⟩
  have k6 := (K2.out.below b2 (by simp only [World.size_alloc]; omega)).below b3 (by omega)
  have y0 := k6.cell 0
  have z0 := k6.frozen 0
  have y1 := k6.cell 1
  have z1 := k6.frozen 1
  have y2 := k6.cell 2
  have z2 := k6.frozen 2
  have y3 := k6.cell 3
  have z3 := k6.frozen 3
  have y4 := k6.cell 4
  have z4 := k6.frozen 4
  have y5 := k6.cell 5
  have z5 := k6.frozen 5
  have y6 := k6.cell 6
  have z6 := k6.frozen 6
  have y7 := k6.cell 7
  have z7 := k6.frozen 7
  have bg := btrans bf b3
  have hz3 := b3.size
  go_wp2_with fail
  refine bodyPost_ret (v := .tuple #[.agg #[.int .i8 0, .int .i64 0, .int .i64 0, .int .i64 0, .int .i64 0, .slice none 0 0, .slice none 0 0, .int .i64 0], .int .i64 n]) (by simp [results, Tryd.results23, go_sem, y0, y1, y2, y3, y4, y5, y6, y7]) rfl ?_
  rw [HE.out, HCO.out]
  exact ⟨none, none, 0, 0, rfl, CoR.zero _ _ _ _, (bset (bset (bset (bset (bset (bset (bset (bset bg (by omega) _) (by omega) _) (by omega) _) (by omega) _) (by omega) _) (by omega) _) (by omega) _) (by omega) _), NewAt.none_, NewAt.none_⟩

set_option maxRecDepth 100000 in
set_option maxHeartbeats 1000000 in
theorem Init_f (c : Co) (A1 D1 : Option Addr) (c1 e1 : Nat) (pid tm : Int) (w : World) (h1 : CoR w w.heap.size c A1 D1) (hg : HasET w) (k1 : 1 ≤ pid ∧ pid ≤ 8 ∧ 1 ≤ tm ∧ tm ≤ 20) (k2 : chkE c 0 true = 0) (k3 : 100 ≤ c.ep) :
    Calls Tryd.prog 23 #[(.agg #[.int .i8 c.st, .int .i64 c.pid, .int .i64 c.ep, .int .i64 c.tm, .int .i64 c.th, .slice A1 c.ps.length c1, .slice D1 c.qs.length e1, .int .i64 c.ag]), .int .i64 pid, .int .i64 tm] w (MvPost (initC c pid tm) (initE c pid tm) w) := by
  have he : initE c pid tm = 102 := by unfold initE; rw [if_neg (by omega), if_neg (by rw [k2]; simp), if_pos k3]
  have hco : initC c pid tm = Co0 := by unfold initC; rw [he, if_neg (by decide)]
  have HE := Lib.hid he
  have HCO := Lib.hid hco
  have HK2 := Lib.hid k2
  have d9 : decide (100 ≤ c.ep) = true := decide_eq_true k3
  have d0 : decide (1 ≤ pid) = true := decide_eq_true (by omega)
  have d1 : decide (pid ≤ 8) = true := decide_eq_true (by omega)
  have d2 : decide (1 ≤ tm) = true := decide_eq_true (by omega)
  have d3 : decide (tm ≤ 20) = true := decide_eq_true (by omega)
  have h2 := (h1.al (.cells #[.int .i8 c.st, .int .i64 c.pid, .int .i64 c.ep, .int .i64 c.tm, .int .i64 c.th, .slice A1 c.ps.length c1, .slice D1 c.qs.length e1, .int .i64 c.ag] 26)).al (.cells #[.int .i8 0, .int .i64 0, .int .i64 0, .int .i64 0, .int .i64 0, .slice none 0 0, .slice none 0 0, .int .i64 0] 26)
  have hc := check_any c A1 D1 c1 e1 0 true _ _ h2 (Nat.le_refl _)
  have HC := Lib.hid hc
  have HB := Lib.hid (bal (bal (Below.refl w.heap.size w) (.cells #[.int .i8 c.st, .int .i64 c.pid, .int .i64 c.ep, .int .i64 c.tm, .int .i64 c.th, .slice A1 c.ps.length c1, .slice D1 c.qs.length e1, .int .i64 c.ag] 26)) (.cells #[.int .i8 0, .int .i64 0, .int .i64 0, .int .i64 0, .int .i64 0, .slice none 0 0, .slice none 0 0, .int .i64 0] 26))
  have K1 := Lib.hid ((Blk.new w 26 #[.int .i8 c.st, .int .i64 c.pid, .int .i64 c.ep, .int .i64 c.tm, .int .i64 c.th, .slice A1 c.ps.length c1, .slice D1 c.qs.length e1, .int .i64 c.ag]).alloc (.cells #[.int .i8 0, .int .i64 0, .int .i64 0, .int .i64 0, .int .i64 0, .slice none 0 0, .slice none 0 0, .int .i64 0] 26))
  have kk := Blk.new (w.alloc (.cells #[.int .i8 c.st, .int .i64 c.pid, .int .i64 c.ep, .int .i64 c.tm, .int .i64 c.th, .slice A1 c.ps.length c1, .slice D1 c.qs.length e1, .int .i64 c.ag] 26)) 26 #[.int .i8 0, .int .i64 0, .int .i64 0, .int .i64 0, .int .i64 0, .slice none 0 0, .slice none 0 0, .int .i64 0]
  rw [World.size_alloc] at kk
  have K2 := Lib.hid kk
  have HG := Lib.hid hg
  clear h2 hc kk h1 hg k1 k2 he hco
  go_enter Tryd.func23, Tryd.ntmps23
  go_wp2_with fail
  refine HC.out.mono ?_
  rintro e w2 ⟨b2, hres⟩
  obtain rfl : e = .returned .nilIface := by
    rcases hres with ⟨_, h⟩ | ⟨hz, _⟩
    · exact h
    · exact absurd HK2.out hz
  clear hres
  have hz2 := b2.size
  simp only [World.size_alloc] at hz2
  have k5 := K1.out.below b2 (by simp only [World.size_alloc]; omega)
  have x0 := k5.cell 0
  have x1 := k5.cell 1
  have x2 := k5.cell 2
  have x3 := k5.cell 3
  have x4 := k5.cell 4
  have x5 := k5.cell 5
  have x6 := k5.cell 6
  have x7 := k5.cell 7
  have bf := btrans HB.out b2
  have hcode := code_fault w2.heap.size 102 (w2.alloc (.cells #[.string ⟨#[97, 110, 32, 101, 112, 111, 99, 104]⟩, .int .i64 102] 64)) (HG.out.up (bal bf _)) ((Blk.new w2 64 #[.string ⟨#[97, 110, 32, 101, 112, 111, 99, 104]⟩, .int .i64 102]).cell 1)
  have HCODE := Lib.hid hcode
  clear hcode
  go_wp2_with fail
  refine HCODE.out.mono ?_
  rintro e w3 ⟨rfl, b3⟩
  have hz3 := b3.size
  simp only [World.size_alloc] at hz3
  have k6 := ((K2.out.below b2 (by simp only [World.size_alloc]; omega)).alloc (.cells #[.string ⟨#[97, 110, 32, 101, 112, 111, 99, 104]⟩, .int .i64 102] 64)).below b3 (by simp only [World.size_alloc]; omega)
  have y0 := k6.cell 0
  have z0 := k6.frozen 0
  have y1 := k6.cell 1
  have z1 := k6.frozen 1
  have y2 := k6.cell 2
  have z2 := k6.frozen 2
  have y3 := k6.cell 3
  have z3 := k6.frozen 3
  have y4 := k6.cell 4
  have z4 := k6.frozen 4
  have y5 := k6.cell 5
  have z5 := k6.frozen 5
  have y6 := k6.cell 6
  have z6 := k6.frozen 6
  have y7 := k6.cell 7
  have z7 := k6.frozen 7
  have bg := btrans (bal bf _) b3
  go_wp2_with fail
  refine bodyPost_ret (v := .tuple #[.agg #[.int .i8 0, .int .i64 0, .int .i64 0, .int .i64 0, .int .i64 0, .slice none 0 0, .slice none 0 0, .int .i64 0], .int .i64 102]) (by simp [results, Tryd.results23, go_sem, y0, y1, y2, y3, y4, y5, y6, y7]) rfl ?_
  rw [HE.out, HCO.out]
  exact ⟨none, none, 0, 0, rfl, CoR.zero _ _ _ _, (bset (bset (bset (bset (bset (bset (bset (bset bg (by omega) _) (by omega) _) (by omega) _) (by omega) _) (by omega) _) (by omega) _) (by omega) _) (by omega) _), NewAt.none_, NewAt.none_⟩

set_option maxRecDepth 100000 in
set_option maxHeartbeats 2000000 in
theorem Init_g (c : Co) (A1 D1 : Option Addr) (c1 e1 : Nat) (pid tm : Int) (w : World) (h1 : CoR w w.heap.size c A1 D1) (hg : HasET w) (k1 : 1 ≤ pid ∧ pid ≤ 8 ∧ 1 ≤ tm ∧ tm ≤ 20) (k2 : chkE c 0 true = 0) (k3 : c.ep < 100) (k5 : -1000000 ≤ c.ep) (k4 : c.st = 0) :
    Calls Tryd.prog 23 #[(.agg #[.int .i8 c.st, .int .i64 c.pid, .int .i64 c.ep, .int .i64 c.tm, .int .i64 c.th, .slice A1 c.ps.length c1, .slice D1 c.qs.length e1, .int .i64 c.ag]), .int .i64 pid, .int .i64 tm] w (MvPost (initC c pid tm) (initE c pid tm) w) := by
  have he : initE c pid tm = 0 := by unfold initE; rw [if_neg (by omega), if_neg (by rw [k2]; simp), if_neg (by omega)]
  have hco : initC c pid tm = ⟨1, pid, 0, tm, 0, [], [], 0⟩ := by unfold initC; rw [he, if_pos rfl, if_pos k4]
  have HE := Lib.hid he
  have HCO := Lib.hid hco
  have HK2 := Lib.hid k2
  have d9 : decide (100 ≤ c.ep) = false := decide_eq_false (by omega)
  have d0 : decide (1 ≤ pid) = true := decide_eq_true (by omega)
  have d1 : decide (pid ≤ 8) = true := decide_eq_true (by omega)
  have d2 : decide (1 ≤ tm) = true := decide_eq_true (by omega)
  have d3 : decide (tm ≤ 20) = true := decide_eq_true (by omega)
  have d4 : (c.st != 0) = false := ne_false k4
  have h2 := (h1.al (.cells #[.int .i8 c.st, .int .i64 c.pid, .int .i64 c.ep, .int .i64 c.tm, .int .i64 c.th, .slice A1 c.ps.length c1, .slice D1 c.qs.length e1, .int .i64 c.ag] 26)).al (.cells #[.int .i8 0, .int .i64 0, .int .i64 0, .int .i64 0, .int .i64 0, .slice none 0 0, .slice none 0 0, .int .i64 0] 26)
  have hc := check_any c A1 D1 c1 e1 0 true _ _ h2 (Nat.le_refl _)
  have HC := Lib.hid hc
  have HB := Lib.hid (bal (bal (Below.refl w.heap.size w) (.cells #[.int .i8 c.st, .int .i64 c.pid, .int .i64 c.ep, .int .i64 c.tm, .int .i64 c.th, .slice A1 c.ps.length c1, .slice D1 c.qs.length e1, .int .i64 c.ag] 26)) (.cells #[.int .i8 0, .int .i64 0, .int .i64 0, .int .i64 0, .int .i64 0, .slice none 0 0, .slice none 0 0, .int .i64 0] 26))
  have K1 := Lib.hid ((Blk.new w 26 #[.int .i8 c.st, .int .i64 c.pid, .int .i64 c.ep, .int .i64 c.tm, .int .i64 c.th, .slice A1 c.ps.length c1, .slice D1 c.qs.length e1, .int .i64 c.ag]).alloc (.cells #[.int .i8 0, .int .i64 0, .int .i64 0, .int .i64 0, .int .i64 0, .slice none 0 0, .slice none 0 0, .int .i64 0] 26))
  have kk := Blk.new (w.alloc (.cells #[.int .i8 c.st, .int .i64 c.pid, .int .i64 c.ep, .int .i64 c.tm, .int .i64 c.th, .slice A1 c.ps.length c1, .slice D1 c.qs.length e1, .int .i64 c.ag] 26)) 26 #[.int .i8 0, .int .i64 0, .int .i64 0, .int .i64 0, .int .i64 0, .slice none 0 0, .slice none 0 0, .int .i64 0]
  rw [World.size_alloc] at kk
  have K2 := Lib.hid kk
  have HG := Lib.hid hg
  clear h2 hc kk h1 hg k1 k2 k4 he hco
  go_enter Tryd.func23, Tryd.ntmps23
  go_wp2_with fail
  refine HC.out.mono ?_
  rintro e w2 ⟨b2, hres⟩
  obtain rfl : e = .returned .nilIface := by
    rcases hres with ⟨_, h⟩ | ⟨hz, _⟩
    · exact h
    · exact absurd HK2.out hz
  clear hres
  have hz2 := b2.size
  simp only [World.size_alloc] at hz2
  have k5 := K1.out.below b2 (by simp only [World.size_alloc]; omega)
  have k6 := K2.out.below b2 (by simp only [World.size_alloc]; omega)
  have hlt3 : w.heap.size + 1 < w2.heap.size := by omega
  have hne3 : ¬ w.heap.size + 1 = w2.heap.size := by omega
  have hlt4 : w.heap.size < w2.heap.size := by omega
  have hne4 : ¬ w.heap.size = w2.heap.size := by omega
  have x0 := k5.cell 0
  have x1 := k5.cell 1
  have x2 := k5.cell 2
  have x3 := k5.cell 3
  have x4 := k5.cell 4
  have x5 := k5.cell 5
  have x6 := k5.cell 6
  have x7 := k5.cell 7
  have y0 := k6.cell 0
  have z0 := k6.frozen 0
  have y1 := k6.cell 1
  have z1 := k6.frozen 1
  have y2 := k6.cell 2
  have z2 := k6.frozen 2
  have y3 := k6.cell 3
  have z3 := k6.frozen 3
  have y4 := k6.cell 4
  have z4 := k6.frozen 4
  have y5 := k6.cell 5
  have z5 := k6.frozen 5
  have y6 := k6.cell 6
  have z6 := k6.frozen 6
  have y7 := k6.cell 7
  have z7 := k6.frozen 7
  have bf := btrans HB.out b2
  go_wp2_with fail
  refine bodyPost_ret (v := .tuple #[.agg #[.int .i8 1, .int .i64 pid, .int .i64 0, .int .i64 tm, .int .i64 0, .slice none 0 0, .slice none 0 0, .int .i64 0], .int .i64 0]) (by simp [results, Tryd.results23, go_sem, y0, y1, y2, y3, y4, y5, y6, y7, hlt3, hne3]) rfl ?_
  rw [HE.out, HCO.out]
  refine ⟨none, none, 0, 0, rfl, ⟨Reads.none_, Reads.none_, by simp, by simp⟩, ?_, NewAt.none_, NewAt.none_⟩
  first | exact bal (bset (bset (bset (bset (bset (bset (bset (bset bf (by omega) _) (by omega) _) (by omega) _) (by omega) _) (by omega) _) (by omega) _) (by omega) _) (by omega) _) _ | exact (bal (bset (bset (bset (bset (bset (bset (bset (bset bf (by omega) _) (by omega) _) (by omega) _) (by omega) _) (by omega) _) (by omega) _) (by omega) _) (by omega) _) _).drew

set_option maxRecDepth 100000 in
set_option maxHeartbeats 2000000 in
theorem Init_h (c : Co) (A1 D1 : Option Addr) (c1 e1 : Nat) (pid tm : Int) (w : World) (h1 : CoR w w.heap.size c A1 D1) (hg : HasET w) (k1 : 1 ≤ pid ∧ pid ≤ 8 ∧ 1 ≤ tm ∧ tm ≤ 20) (k2 : chkE c 0 true = 0) (k3 : c.ep < 100) (k5 : -1000000 ≤ c.ep) (k4 : ¬ c.st = 0) :
    Calls Tryd.prog 23 #[(.agg #[.int .i8 c.st, .int .i64 c.pid, .int .i64 c.ep, .int .i64 c.tm, .int .i64 c.th, .slice A1 c.ps.length c1, .slice D1 c.qs.length e1, .int .i64 c.ag]), .int .i64 pid, .int .i64 tm] w (MvPost (initC c pid tm) (initE c pid tm) w) := by
  have he : initE c pid tm = 0 := by unfold initE; rw [if_neg (by omega), if_neg (by rw [k2]; simp), if_neg (by omega)]
  have hco : initC c pid tm = ⟨1, c.pid, c.ep + 1, tm, 0, [], [], 0⟩ := by unfold initC; rw [he, if_pos rfl, if_neg k4]
  have HE := Lib.hid he
  have HCO := Lib.hid hco
  have HK2 := Lib.hid k2
  have d9 : decide (100 ≤ c.ep) = false := decide_eq_false (by omega)
  have d0 : decide (1 ≤ pid) = true := decide_eq_true (by omega)
  have d1 : decide (pid ≤ 8) = true := decide_eq_true (by omega)
  have d2 : decide (1 ≤ tm) = true := decide_eq_true (by omega)
  have d3 : decide (tm ≤ 20) = true := decide_eq_true (by omega)
  have d4 : (c.st != 0) = true := ne_true k4
  have h2 := (h1.al (.cells #[.int .i8 c.st, .int .i64 c.pid, .int .i64 c.ep, .int .i64 c.tm, .int .i64 c.th, .slice A1 c.ps.length c1, .slice D1 c.qs.length e1, .int .i64 c.ag] 26)).al (.cells #[.int .i8 0, .int .i64 0, .int .i64 0, .int .i64 0, .int .i64 0, .slice none 0 0, .slice none 0 0, .int .i64 0] 26)
  have hc := check_any c A1 D1 c1 e1 0 true _ _ h2 (Nat.le_refl _)
  have HC := Lib.hid hc
  have HB := Lib.hid (bal (bal (Below.refl w.heap.size w) (.cells #[.int .i8 c.st, .int .i64 c.pid, .int .i64 c.ep, .int .i64 c.tm, .int .i64 c.th, .slice A1 c.ps.length c1, .slice D1 c.qs.length e1, .int .i64 c.ag] 26)) (.cells #[.int .i8 0, .int .i64 0, .int .i64 0, .int .i64 0, .int .i64 0, .slice none 0 0, .slice none 0 0, .int .i64 0] 26))
  have K1 := Lib.hid ((Blk.new w 26 #[.int .i8 c.st, .int .i64 c.pid, .int .i64 c.ep, .int .i64 c.tm, .int .i64 c.th, .slice A1 c.ps.length c1, .slice D1 c.qs.length e1, .int .i64 c.ag]).alloc (.cells #[.int .i8 0, .int .i64 0, .int .i64 0, .int .i64 0, .int .i64 0, .slice none 0 0, .slice none 0 0, .int .i64 0] 26))
  have kk := Blk.new (w.alloc (.cells #[.int .i8 c.st, .int .i64 c.pid, .int .i64 c.ep, .int .i64 c.tm, .int .i64 c.th, .slice A1 c.ps.length c1, .slice D1 c.qs.length e1, .int .i64 c.ag] 26)) 26 #[.int .i8 0, .int .i64 0, .int .i64 0, .int .i64 0, .int .i64 0, .slice none 0 0, .slice none 0 0, .int .i64 0]
  rw [World.size_alloc] at kk
  have K2 := Lib.hid kk
  have HG := Lib.hid hg
  clear h2 hc kk h1 hg k1 k2 k4 he hco
  go_enter Tryd.func23, Tryd.ntmps23
  go_wp2_with fail
  refine HC.out.mono ?_
  rintro e w2 ⟨b2, hres⟩
  obtain rfl : e = .returned .nilIface := by
    rcases hres with ⟨_, h⟩ | ⟨hz, _⟩
    · exact h
    · exact absurd HK2.out hz
  clear hres
  have hz2 := b2.size
  simp only [World.size_alloc] at hz2
  have k5 := K1.out.below b2 (by simp only [World.size_alloc]; omega)
  have k6 := K2.out.below b2 (by simp only [World.size_alloc]; omega)
  have hlt3 : w.heap.size + 1 < w2.heap.size := by omega
  have hne3 : ¬ w.heap.size + 1 = w2.heap.size := by omega
  have hlt4 : w.heap.size < w2.heap.size := by omega
  have hne4 : ¬ w.heap.size = w2.heap.size := by omega
  have x0 := k5.cell 0
  have x1 := k5.cell 1
  have x2 := k5.cell 2
  have x3 := k5.cell 3
  have x4 := k5.cell 4
  have x5 := k5.cell 5
  have x6 := k5.cell 6
  have x7 := k5.cell 7
  have y0 := k6.cell 0
  have z0 := k6.frozen 0
  have y1 := k6.cell 1
  have z1 := k6.frozen 1
  have y2 := k6.cell 2
  have z2 := k6.frozen 2
  have y3 := k6.cell 3
  have z3 := k6.frozen 3
  have y4 := k6.cell 4
  have z4 := k6.frozen 4
  have y5 := k6.cell 5
  have z5 := k6.frozen 5
  have y6 := k6.cell 6
  have z6 := k6.frozen 6
  have y7 := k6.cell 7
  have z7 := k6.frozen 7
  have bf := btrans HB.out b2
  go_wp2_with fail
  have ko := Blk.new w2 26 #[.int .i8 1, .int .i64 pid, .int .i64 0, .int .i64 tm, .int .i64 0, .slice none 0 0, .slice none 0 0, .int .i64 0]
  have k5' := k5.alloc (.cells #[.int .i8 1, .int .i64 pid, .int .i64 0, .int .i64 tm, .int .i64 0, .slice none 0 0, .slice none 0 0, .int .i64 0] 26)
  have k6' := k6.alloc (.cells #[.int .i8 1, .int .i64 pid, .int .i64 0, .int .i64 tm, .int .i64 0, .slice none 0 0, .slice none 0 0, .int .i64 0] 26)
  have bf' := bal bf (.cells #[.int .i8 1, .int .i64 pid, .int .i64 0, .int .i64 tm, .int .i64 0, .slice none 0 0, .slice none 0 0, .int .i64 0] 26)
  clear x0 x1 x2 x3 x4 x5 x6 x7 y0 y1 y2 y3 y4 y5 y6 y7 z0 z1 z2 z3 z4 z5 z6 z7
  generalize w2.alloc (.cells #[.int .i8 1, .int .i64 pid, .int .i64 0, .int .i64 tm, .int .i64 0, .slice none 0 0, .slice none 0 0, .int .i64 0] 26) = W at *
  have x1 := k5'.cell 1
  have x2 := k5'.cell 2
  have u1 := ko.cell 1
  have u2 := ko.cell 2
  have v1 := ko.frozen 1
  have v2 := ko.frozen 2
  go_region
  have u0 := ko.cell 0
  have u3 := ko.cell 3
  have u4 := ko.cell 4
  have u5 := ko.cell 5
  have u6 := ko.cell 6
  have u7 := ko.cell 7
  have y0 := k6'.cell 0
  have z0 := k6'.frozen 0
  have y1 := k6'.cell 1
  have z1 := k6'.frozen 1
  have y2 := k6'.cell 2
  have z2 := k6'.frozen 2
  have y3 := k6'.cell 3
  have z3 := k6'.frozen 3
  have y4 := k6'.cell 4
  have z4 := k6'.frozen 4
  have y5 := k6'.cell 5
  have z5 := k6'.frozen 5
  have y6 := k6'.cell 6
  have z6 := k6'.frozen 6
  have y7 := k6'.cell 7
  have z7 := k6'.frozen 7
  go_wp2_with fail
  refine bodyPost_ret (v := .tuple #[.agg #[.int .i8 1, .int .i64 c.pid, .int .i64 (c.ep + 1), .int .i64 tm, .int .i64 0, .slice none 0 0, .slice none 0 0, .int .i64 0], .int .i64 0]) (by simp [results, Tryd.results23, go_sem, y0, y1, y2, y3, y4, y5, y6, y7]) rfl ?_
  rw [HE.out, HCO.out]
  refine ⟨none, none, 0, 0, rfl, ⟨Reads.none_, Reads.none_, by simp, by simp⟩, ?_, NewAt.none_, NewAt.none_⟩
  exact (bset (bset (bset (bset (bset (bset (bset (bset (bset (bset bf' (by omega) _) (by omega) _) (by omega) _) (by omega) _) (by omega) _) (by omega) _) (by omega) _) (by omega) _) (by omega) _) (by omega) _).drew

theorem Init_any (c : Co) (A1 D1 : Option Addr) (c1 e1 : Nat) (pid tm : Int) (w : World) (h1 : CoR w w.heap.size c A1 D1) (hg : HasET w) (hep : -1000000 ≤ c.ep) :
    Calls Tryd.prog 23 #[(.agg #[.int .i8 c.st, .int .i64 c.pid, .int .i64 c.ep, .int .i64 c.tm, .int .i64 c.th, .slice A1 c.ps.length c1, .slice D1 c.qs.length e1, .int .i64 c.ag]), .int .i64 pid, .int .i64 tm] w (MvPost (initC c pid tm) (initE c pid tm) w) := by
  by_cases k1 : 1 ≤ pid ∧ pid ≤ 8 ∧ 1 ≤ tm ∧ tm ≤ 20
  · by_cases k2 : chkE c 0 true = 0
    · by_cases k3 : 100 ≤ c.ep
      · exact Init_f c A1 D1 c1 e1 pid tm w h1 hg k1 k2 k3
      · by_cases k4 : c.st = 0
        · exact Init_g c A1 D1 c1 e1 pid tm w h1 hg k1 k2 (by omega) hep k4
        · exact Init_h c A1 D1 c1 e1 pid tm w h1 hg k1 k2 (by omega) hep k4
    · exact Init_e c A1 D1 c1 e1 pid tm w h1 hg k1 k2
  · have h : pid < 1 ∨ 8 < pid ∨ (1 ≤ pid ∧ pid ≤ 8 ∧ tm < 1) ∨ (1 ≤ pid ∧ pid ≤ 8 ∧ 20 < tm) := by omega
    rcases h with h | h | h | h
    · exact Init_a c A1 D1 c1 e1 pid tm w h1 hg h
    · exact Init_b c A1 D1 c1 e1 pid tm w h1 hg h
    · exact Init_c c A1 D1 c1 e1 pid tm w h1 hg h
    · exact Init_d c A1 D1 c1 e1 pid tm w h1 hg h
end Go.Proofs.YtagclnmchkgpdaaDoor
