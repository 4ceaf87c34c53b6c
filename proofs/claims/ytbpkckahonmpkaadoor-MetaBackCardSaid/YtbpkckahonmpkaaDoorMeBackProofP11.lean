/-
  Layer 18: a move, made by the program.
  Layer 18: states.Prepare.
-/
import Derived.Test.YtbpkckahonmpkaaDoorMeBackProofP10
set_option linter.unusedVariables false
set_option linter.unusedSimpArgs false
namespace Go.Proofs.YtbpkckahonmpkaaDoor
open Go.RowKit

noncomputable def prepE (c : Co) (yes : Bool) (th : Int) : Int :=
  if ¬ (0 ≤ th ∧ th ≤ 20 ∧ (yes = false ∨ th = 0)) then 2 else if ¬ chkE c 2 true = 0 then chkE c 2 true else if 0 < th ∧ 100 ≤ c.ep then 102 else 0
noncomputable def prepC (c : Co) (yes : Bool) (th : Int) : Co :=
  if prepE c yes th = 0 then { c with st := if yes then 3 else 4, th := th } else Co0

set_option maxRecDepth 100000 in
set_option maxHeartbeats 2000000 in
theorem Prepare_a (c : Co) (A1 D1 : Option Addr) (c1 e1 : Nat) (yes : Bool) (th : Int) (w : World) (h1 : CoR w w.heap.size c A1 D1) (hg : HasET w) (k1 : th < 0) :
    Calls Tryd.prog 48 #[(.agg #[.int .i8 c.st, .int .i64 c.pid, .int .i64 c.ep, .int .i64 c.tm, .int .i64 c.th, .slice A1 c.ps.length c1, .slice D1 c.qs.length e1, .int .i64 c.ag]), .bool yes, .int .i64 th] w (MvPost (prepC c yes th) (prepE c yes th) w) := by
  have he : prepE c yes th = 2 := by unfold prepE; rw [if_pos (by omega)]
  have hco : prepC c yes th = Co0 := by unfold prepC; rw [he, if_neg (by decide)]
  have HE := Lib.hid he
  have HCO := Lib.hid hco
  have hck : chkE c 2 false = 2 := by unfold chkE; simp
  have HCK := Lib.hid hck
  have d0 : decide (0 ≤ th) = false := decide_eq_false (by omega)
  have h2 := (h1.al (.cells #[.int .i8 c.st, .int .i64 c.pid, .int .i64 c.ep, .int .i64 c.tm, .int .i64 c.th, .slice A1 c.ps.length c1, .slice D1 c.qs.length e1, .int .i64 c.ag] 26)).al (.cells #[.int .i8 0, .int .i64 0, .int .i64 0, .int .i64 0, .int .i64 0, .slice none 0 0, .slice none 0 0, .int .i64 0] 26)
  have hc := check_any c A1 D1 c1 e1 2 false _ _ h2 (Nat.le_refl _)
  have HC := Lib.hid hc
  have HB := Lib.hid (bal (bal (Below.refl w.heap.size w) (.cells #[.int .i8 c.st, .int .i64 c.pid, .int .i64 c.ep, .int .i64 c.tm, .int .i64 c.th, .slice A1 c.ps.length c1, .slice D1 c.qs.length e1, .int .i64 c.ag] 26)) (.cells #[.int .i8 0, .int .i64 0, .int .i64 0, .int .i64 0, .int .i64 0, .slice none 0 0, .slice none 0 0, .int .i64 0] 26))
  have K1 := Lib.hid ((Blk.new w 26 #[.int .i8 c.st, .int .i64 c.pid, .int .i64 c.ep, .int .i64 c.tm, .int .i64 c.th, .slice A1 c.ps.length c1, .slice D1 c.qs.length e1, .int .i64 c.ag]).alloc (.cells #[.int .i8 0, .int .i64 0, .int .i64 0, .int .i64 0, .int .i64 0, .slice none 0 0, .slice none 0 0, .int .i64 0] 26))
  have kk := Blk.new (w.alloc (.cells #[.int .i8 c.st, .int .i64 c.pid, .int .i64 c.ep, .int .i64 c.tm, .int .i64 c.th, .slice A1 c.ps.length c1, .slice D1 c.qs.length e1, .int .i64 c.ag] 26)) 26 #[.int .i8 0, .int .i64 0, .int .i64 0, .int .i64 0, .int .i64 0, .slice none 0 0, .slice none 0 0, .int .i64 0]
  rw [World.size_alloc] at kk
  have K2 := Lib.hid kk
  have HG := Lib.hid hg
  have H1 := Lib.hid h1
  have hps := h1.2.2.1
  have hqs := h1.2.2.2
  clear h2 hc kk h1 hg k1 he hco hck
  go_enter Tryd.func48, Tryd.ntmps48
  go_wp2_with fail
  refine HC.out.mono ?_
  rintro e w2 ⟨b2, hres⟩
  have hz2 := b2.size
  simp only [World.size_alloc] at hz2
  have bf := btrans HB.out b2
  obtain ⟨b, rfl, hc2, hbge, hblt⟩ : FaultAt 2 _ e w2 := by
    rcases hres with ⟨hz, _⟩ | ⟨_, hf⟩
    · rw [HCK.out] at hz; cases hz
    · rw [HCK.out] at hf; exact hf
  clear hres
  have hcode := code_fault b 2 w2 (HG.out.up bf) hc2
  have H2E := Lib.hid hcode
  clear hcode hc2
  go_wp2_with fail
  refine H2E.out.mono ?_
  rintro e w3 ⟨rfl, b3⟩
  have k6 := (K2.out.below b2 (by simp only [World.size_alloc]; omega)).below b3 (by omega)
  have y0 := k6.cell 0
  have z0 := k6.frozen 0
  have y1 := k6.cell 1
  have z1 := k6.frozen 1
  have y2 := k6.cell 2
  have z2 := k6.frozen 2
  have y3 := k6.cell 3
  have z3 := k6.frozen 3
  have y4 := k6.cell 4
  have z4 := k6.frozen 4
  have y5 := k6.cell 5
  have z5 := k6.frozen 5
  have y6 := k6.cell 6
  have z6 := k6.frozen 6
  have y7 := k6.cell 7
  have z7 := k6.frozen 7
  have bg := btrans bf b3
  have hz3 := b3.size
  go_wp2_with fail
  refine bodyPost_ret (v := .tuple #[.agg #[.int .i8 0, .int .i64 0, .int .i64 0, .int .i64 0, .int .i64 0, .slice none 0 0, .slice none 0 0, .int .i64 0], .int .i64 2]) (by simp [results, Tryd.results48, go_sem, y0, y1, y2, y3, y4, y5, y6, y7]) rfl ?_
  rw [HE.out, HCO.out]
  exact ⟨none, none, 0, 0, rfl, CoR.zero _ _ _ _, (bset (bset (bset (bset (bset (bset (bset (bset bg (by omega) _) (by omega) _) (by omega) _) (by omega) _) (by omega) _) (by omega) _) (by omega) _) (by omega) _), NewAt.none_, NewAt.none_⟩

set_option maxRecDepth 100000 in
set_option maxHeartbeats 2000000 in
theorem Prepare_b (c : Co) (A1 D1 : Option Addr) (c1 e1 : Nat) (yes : Bool) (th : Int) (w : World) (h1 : CoR w w.heap.size c A1 D1) (hg : HasET w) (k1 : 20 < th) :
    Calls Tryd.prog 48 #[(.agg #[.int .i8 c.st, .int .i64 c.pid, .int .i64 c.ep, .int .i64 c.tm, .int .i64 c.th, .slice A1 c.ps.length c1, .slice D1 c.qs.length e1, .int .i64 c.ag]), .bool yes, .int .i64 th] w (MvPost (prepC c yes th) (prepE c yes th) w) := by
  have he : prepE c yes th = 2 := by unfold prepE; rw [if_pos (by omega)]
  have hco : prepC c yes th = Co0 := by unfold prepC; rw [he, if_neg (by decide)]
  have HE := Lib.hid he
  have HCO := Lib.hid hco
  have hck : chkE c 2 false = 2 := by unfold chkE; simp
  have HCK := Lib.hid hck
  have d0 : decide (0 ≤ th) = true := decide_eq_true (by omega)
  have d1 : decide (th ≤ 20) = false := decide_eq_false (by omega)
  have h2 := (h1.al (.cells #[.int .i8 c.st, .int .i64 c.pid, .int .i64 c.ep, .int .i64 c.tm, .int .i64 c.th, .slice A1 c.ps.length c1, .slice D1 c.qs.length e1, .int .i64 c.ag] 26)).al (.cells #[.int .i8 0, .int .i64 0, .int .i64 0, .int .i64 0, .int .i64 0, .slice none 0 0, .slice none 0 0, .int .i64 0] 26)
  have hc := check_any c A1 D1 c1 e1 2 false _ _ h2 (Nat.le_refl _)
  have HC := Lib.hid hc
  have HB := Lib.hid (bal (bal (Below.refl w.heap.size w) (.cells #[.int .i8 c.st, .int .i64 c.pid, .int .i64 c.ep, .int .i64 c.tm, .int .i64 c.th, .slice A1 c.ps.length c1, .slice D1 c.qs.length e1, .int .i64 c.ag] 26)) (.cells #[.int .i8 0, .int .i64 0, .int .i64 0, .int .i64 0, .int .i64 0, .slice none 0 0, .slice none 0 0, .int .i64 0] 26))
  have K1 := Lib.hid ((Blk.new w 26 #[.int .i8 c.st, .int .i64 c.pid, .int .i64 c.ep, .int .i64 c.tm, .int .i64 c.th, .slice A1 c.ps.length c1, .slice D1 c.qs.length e1, .int .i64 c.ag]).alloc (.cells #[.int .i8 0, .int .i64 0, .int .i64 0, .int .i64 0, .int .i64 0, .slice none 0 0, .slice none 0 0, .int .i64 0] 26))
  have kk := Blk.new (w.alloc (.cells #[.int .i8 c.st, .int .i64 c.pid, .int .i64 c.ep, .int .i64 c.tm, .int .i64 c.th, .slice A1 c.ps.length c1, .slice D1 c.qs.length e1, .int .i64 c.ag] 26)) 26 #[.int .i8 0, .int .i64 0, .int .i64 0, .int .i64 0, .int .i64 0, .slice none 0 0, .slice none 0 0, .int .i64 0]
  rw [World.size_alloc] at kk
  have K2 := Lib.hid kk
  have HG := Lib.hid hg
  have H1 := Lib.hid h1
  have hps := h1.2.2.1
  have hqs := h1.2.2.2
  clear h2 hc kk h1 hg k1 he hco hck
  go_enter Tryd.func48, Tryd.ntmps48
  go_wp2_with fail
  refine HC.out.mono ?_
  rintro e w2 ⟨b2, hres⟩
  have hz2 := b2.size
  simp only [World.size_alloc] at hz2
  have bf := btrans HB.out b2
  obtain ⟨b, rfl, hc2, hbge, hblt⟩ : FaultAt 2 _ e w2 := by
    rcases hres with ⟨hz, _⟩ | ⟨_, hf⟩
    · rw [HCK.out] at hz; cases hz
    · rw [HCK.out] at hf; exact hf
  clear hres
  have hcode := code_fault b 2 w2 (HG.out.up bf) hc2
  have H2E := Lib.hid hcode
  clear hcode hc2
  go_wp2_with fail
  refine H2E.out.mono ?_
  rintro e w3 ⟨rfl, b3⟩
  have k6 := (K2.out.below b2 (by simp only [World.size_alloc]; omega)).below b3 (by omega)
  have y0 := k6.cell 0
  have z0 := k6.frozen 0
  have y1 := k6.cell 1
  have z1 := k6.frozen 1
  have y2 := k6.cell 2
  have z2 := k6.frozen 2
  have y3 := k6.cell 3
  have z3 := k6.frozen 3
  have y4 := k6.cell 4
  have z4 := k6.frozen 4
  have y5 := k6.cell 5
  have z5 := k6.frozen 5
  have y6 := k6.cell 6
  have z6 := k6.frozen 6
  have y7 := k6.cell 7
  have z7 := k6.frozen 7
  have bg := btrans bf b3
  have hz3 := b3.size
  go_wp2_with fail
  refine bodyPost_ret (v := .tuple #[.agg #[.int .i8 0, .int .i64 0, .int .i64 0, .int .i64 0, .int .i64 0, .slice none 0 0, .slice none 0 0, .int .i64 0], .int .i64 2]) (by simp [results, Tryd.results48, go_sem, y0, y1, y2, y3, y4, y5, y6, y7]) rfl ?_
  rw [HE.out, HCO.out]
  exact ⟨none, none, 0, 0, rfl, CoR.zero _ _ _ _, (bset (bset (bset (bset (bset (bset (bset (bset bg (by omega) _) (by omega) _) (by omega) _) (by omega) _) (by omega) _) (by omega) _) (by omega) _) (by omega) _), NewAt.none_, NewAt.none_⟩

set_option maxRecDepth 100000 in
set_option maxHeartbeats 2000000 in
theorem Prepare_c (c : Co) (A1 D1 : Option Addr) (c1 e1 : Nat) (th : Int) (w : World) (h1 : CoR w w.heap.size c A1 D1) (hg : HasET w) (k1 : 0 < th ∧ th ≤ 20) :
    Calls Tryd.prog 48 #[(.agg #[.int .i8 c.st, .int .i64 c.pid, .int .i64 c.ep, .int .i64 c.tm, .int .i64 c.th, .slice A1 c.ps.length c1, .slice D1 c.qs.length e1, .int .i64 c.ag]), .bool true, .int .i64 th] w (MvPost (prepC c true th) (prepE c true th) w) := by
  have he : prepE c true th = 2 := by unfold prepE; rw [if_pos (by simp; omega)]
  have hco : prepC c true th = Co0 := by unfold prepC; rw [he, if_neg (by decide)]
  have HE := Lib.hid he
  have HCO := Lib.hid hco
  have hck : chkE c 2 false = 2 := by unfold chkE; simp
  have HCK := Lib.hid hck
  have d0 : decide (0 ≤ th) = true := decide_eq_true (by omega)
  have d1 : decide (th ≤ 20) = true := decide_eq_true (by omega)
  have d2 : (th == 0) = false := eqb_false (by omega)
  have h2 := (h1.al (.cells #[.int .i8 c.st, .int .i64 c.pid, .int .i64 c.ep, .int .i64 c.tm, .int .i64 c.th, .slice A1 c.ps.length c1, .slice D1 c.qs.length e1, .int .i64 c.ag] 26)).al (.cells #[.int .i8 0, .int .i64 0, .int .i64 0, .int .i64 0, .int .i64 0, .slice none 0 0, .slice none 0 0, .int .i64 0] 26)
  have hc := check_any c A1 D1 c1 e1 2 false _ _ h2 (Nat.le_refl _)
  have HC := Lib.hid hc
  have HB := Lib.hid (bal (bal (Below.refl w.heap.size w) (.cells #[.int .i8 c.st, .int .i64 c.pid, .int .i64 c.ep, .int .i64 c.tm, .int .i64 c.th, .slice A1 c.ps.length c1, .slice D1 c.qs.length e1, .int .i64 c.ag] 26)) (.cells #[.int .i8 0, .int .i64 0, .int .i64 0, .int .i64 0, .int .i64 0, .slice none 0 0, .slice none 0 0, .int .i64 0] 26))
  have K1 := Lib.hid ((Blk.new w 26 #[.int .i8 c.st, .int .i64 c.pid, .int .i64 c.ep, .int .i64 c.tm, .int .i64 c.th, .slice A1 c.ps.length c1, .slice D1 c.qs.length e1, .int .i64 c.ag]).alloc (.cells #[.int .i8 0, .int .i64 0, .int .i64 0, .int .i64 0, .int .i64 0, .slice none 0 0, .slice none 0 0, .int .i64 0] 26))
  have kk := Blk.new (w.alloc (.cells #[.int .i8 c.st, .int .i64 c.pid, .int .i64 c.ep, .int .i64 c.tm, .int .i64 c.th, .slice A1 c.ps.length c1, .slice D1 c.qs.length e1, .int .i64 c.ag] 26)) 26 #[.int .i8 0, .int .i64 0, .int .i64 0, .int .i64 0, .int .i64 0, .slice none 0 0, .slice none 0 0, .int .i64 0]
  rw [World.size_alloc] at kk
  have K2 := Lib.hid kk
  have HG := Lib.hid hg
  have H1 := Lib.hid h1
  have hps := h1.2.2.1
  have hqs := h1.2.2.2
  clear h2 hc kk h1 hg k1 he hco hck
  go_enter Tryd.func48, Tryd.ntmps48
  go_wp2_with fail
  refine HC.out.mono ?_
  rintro e w2 ⟨b2, hres⟩
  have hz2 := b2.size
  simp only [World.size_alloc] at hz2
  have bf := btrans HB.out b2
  obtain ⟨b, rfl, hc2, hbge, hblt⟩ : FaultAt 2 _ e w2 := by
    rcases hres with ⟨hz, _⟩ | ⟨_, hf⟩
    · rw [HCK.out] at hz; cases hz
    · rw [HCK.out] at hf; exact hf
  clear hres
  have hcode := code_fault b 2 w2 (HG.out.up bf) hc2
  have H2E := Lib.hid hcode
  clear hcode hc2
  go_wp2_with fail
  refine H2E.out.mono ?_
  rintro e w3 ⟨rfl, b3⟩
  have k6 := (K2.out.below b2 (by simp only [World.size_alloc]; omega)).below b3 (by omega)
  have y0 := k6.cell 0
  have z0 := k6.frozen 0
  have y1 := k6.cell 1
  have z1 := k6.frozen 1
  have y2 := k6.cell 2
  have z2 := k6.frozen 2
  have y3 := k6.cell 3
  have z3 := k6.frozen 3
  have y4 := k6.cell 4
  have z4 := k6.frozen 4
  have y5 := k6.cell 5
  have z5 := k6.frozen 5
  have y6 := k6.cell 6
  have z6 := k6.frozen 6
  have y7 := k6.cell 7
  have z7 := k6.frozen 7
  have bg := btrans bf b3
  have hz3 := b3.size
  go_wp2_with fail
  refine bodyPost_ret (v := .tuple #[.agg #[.int .i8 0, .int .i64 0, .int .i64 0, .int .i64 0, .int .i64 0, .slice none 0 0, .slice none 0 0, .int .i64 0], .int .i64 2]) (by simp [results, Tryd.results48, go_sem, y0, y1, y2, y3, y4, y5, y6, y7]) rfl ?_
  rw [HE.out, HCO.out]
  exact ⟨none, none, 0, 0, rfl, CoR.zero _ _ _ _, (bset (bset (bset (bset (bset (bset (bset (bset bg (by omega) _) (by omega) _) (by omega) _) (by omega) _) (by omega) _) (by omega) _) (by omega) _) (by omega) _), NewAt.none_, NewAt.none_⟩

set_option maxRecDepth 100000 in
set_option maxHeartbeats 2000000 in
theorem Prepare_d (c : Co) (A1 D1 : Option Addr) (c1 e1 : Nat) (th : Int) (w : World) (h1 : CoR w w.heap.size c A1 D1) (hg : HasET w) (k1 : 0 ≤ th ∧ th ≤ 20) (k2 : ¬ chkE c 2 true = 0) :
    Calls Tryd.prog 48 #[(.agg #[.int .i8 c.st, .int .i64 c.pid, .int .i64 c.ep, .int .i64 c.tm, .int .i64 c.th, .slice A1 c.ps.length c1, .slice D1 c.qs.length e1, .int .i64 c.ag]), .bool false, .int .i64 th] w (MvPost (prepC c false th) (prepE c false th) w) := by
  obtain ⟨n, hn⟩ : ∃ n, chkE c 2 true = n := ⟨_, rfl⟩
  have he : prepE c false th = n := by unfold prepE; rw [if_neg (by simp; omega), if_pos k2, hn]
  have hco : prepC c false th = Co0 := by unfold prepC; rw [he, if_neg (by rw [← hn]; exact k2)]
  have HE := Lib.hid he
  have HCO := Lib.hid hco
  have HCK := Lib.hid hn
  have HK2 := Lib.hid k2
  have d0 : decide (0 ≤ th) = true := decide_eq_true (by omega)
  have d1 : decide (th ≤ 20) = true := decide_eq_true (by omega)
  have h2 := (h1.al (.cells #[.int .i8 c.st, .int .i64 c.pid, .int .i64 c.ep, .int .i64 c.tm, .int .i64 c.th, .slice A1 c.ps.length c1, .slice D1 c.qs.length e1, .int .i64 c.ag] 26)).al (.cells #[.int .i8 0, .int .i64 0, .int .i64 0, .int .i64 0, .int .i64 0, .slice none 0 0, .slice none 0 0, .int .i64 0] 26)
  have hc := check_any c A1 D1 c1 e1 2 true _ _ h2 (Nat.le_refl _)
  have HC := Lib.hid hc
  have HB := Lib.hid (bal (bal (Below.refl w.heap.size w) (.cells #[.int .i8 c.st, .int .i64 c.pid, .int .i64 c.ep, .int .i64 c.tm, .int .i64 c.th, .slice A1 c.ps.length c1, .slice D1 c.qs.length e1, .int .i64 c.ag] 26)) (.cells #[.int .i8 0, .int .i64 0, .int .i64 0, .int .i64 0, .int .i64 0, .slice none 0 0, .slice none 0 0, .int .i64 0] 26))
  have K1 := Lib.hid ((Blk.new w 26 #[.int .i8 c.st, .int .i64 c.pid, .int .i64 c.ep, .int .i64 c.tm, .int .i64 c.th, .slice A1 c.ps.length c1, .slice D1 c.qs.length e1, .int .i64 c.ag]).alloc (.cells #[.int .i8 0, .int .i64 0, .int .i64 0, .int .i64 0, .int .i64 0, .slice none 0 0, .slice none 0 0, .int .i64 0] 26))
  have kk := Blk.new (w.alloc (.cells #[.int .i8 c.st, .int .i64 c.pid, .int .i64 c.ep, .int .i64 c.tm, .int .i64 c.th, .slice A1 c.ps.length c1, .slice D1 c.qs.length e1, .int .i64 c.ag] 26)) 26 #[.int .i8 0, .int .i64 0, .int .i64 0, .int .i64 0, .int .i64 0, .slice none 0 0, .slice none 0 0, .int .i64 0]
  rw [World.size_alloc] at kk
  have K2 := Lib.hid kk
  have HG := Lib.hid hg
  have H1 := Lib.hid h1
  have hps := h1.2.2.1
  have hqs := h1.2.2.2
  clear h2 hc kk h1 hg k1 k2 he hco hn
  go_enter Tryd.func48, Tryd.ntmps48
  go_wp2_with fail
  refine HC.out.mono ?_
  rintro e w2 ⟨b2, hres⟩
  have hz2 := b2.size
  simp only [World.size_alloc] at hz2
  have bf := btrans HB.out b2
  obtain ⟨b, rfl, hc2, hbge, hblt⟩ : FaultAt n _ e w2 := by
    rcases hres with ⟨hz, _⟩ | ⟨_, hf⟩
    · exact absurd hz HK2.out
    · rw [HCK.out] at hf; exact hf
  clear hres
  have hcode := code_fault b n w2 (HG.out.up bf) hc2
  have HnE := Lib.hid hcode
  clear hcode hc2
  go_wp2_with fail
  refine HnE.out.mono ?_
  rintro e w3 ⟨rfl, b3⟩
  have k6 := (K2.out.below b2 (by simp only [World.size_alloc]; omega)).below b3 (by omega)
  have y0 := k6.cell 0
  have z0 := k6.frozen 0
  have y1 := k6.cell 1
  have z1 := k6.frozen 1
  have y2 := k6.cell 2
  have z2 := k6.frozen 2
  have y3 := k6.cell 3
  have z3 := k6.frozen 3
  have y4 := k6.cell 4
  have z4 := k6.frozen 4
  have y5 := k6.cell 5
  have z5 := k6.frozen 5
  have y6 := k6.cell 6
  have z6 := k6.frozen 6
  have y7 := k6.cell 7
  have z7 := k6.frozen 7
  have bg := btrans bf b3
  have hz3 := b3.size
  go_wp2_with fail
  refine bodyPost_ret (v := .tuple #[.agg #[.int .i8 0, .int .i64 0, .int .i64 0, .int .i64 0, .int .i64 0, .slice none 0 0, .slice none 0 0, .int .i64 0], .int .i64 n]) (by simp [results, Tryd.results48, go_sem, y0, y1, y2, y3, y4, y5, y6, y7]) rfl ?_
  rw [HE.out, HCO.out]
  exact ⟨none, none, 0, 0, rfl, CoR.zero _ _ _ _, (bset (bset (bset (bset (bset (bset (bset (bset bg (by omega) _) (by omega) _) (by omega) _) (by omega) _) (by omega) _) (by omega) _) (by omega) _) (by omega) _), NewAt.none_, NewAt.none_⟩

set_option maxRecDepth 100000 in
set_option maxHeartbeats 2000000 in
theorem Prepare_e (c : Co) (A1 D1 : Option Addr) (c1 e1 : Nat) (w : World) (h1 : CoR w w.heap.size c A1 D1) (hg : HasET w)  (k2 : ¬ chkE c 2 true = 0) :
    Calls Tryd.prog 48 #[(.agg #[.int .i8 c.st, .int .i64 c.pid, .int .i64 c.ep, .int .i64 c.tm, .int .i64 c.th, .slice A1 c.ps.length c1, .slice D1 c.qs.length e1, .int .i64 c.ag]), .bool true, .int .i64 0] w (MvPost (prepC c true 0) (prepE c true 0) w) := by
  obtain ⟨n, hn⟩ : ∃ n, chkE c 2 true = n := ⟨_, rfl⟩
  have he : prepE c true 0 = n := by unfold prepE; rw [if_neg (by simp), if_pos k2, hn]
  have hco : prepC c true 0 = Co0 := by unfold prepC; rw [he, if_neg (by rw [← hn]; exact k2)]
  have HE := Lib.hid he
  have HCO := Lib.hid hco
  have HCK := Lib.hid hn
  have HK2 := Lib.hid k2
  have h2 := (h1.al (.cells #[.int .i8 c.st, .int .i64 c.pid, .int .i64 c.ep, .int .i64 c.tm, .int .i64 c.th, .slice A1 c.ps.length c1, .slice D1 c.qs.length e1, .int .i64 c.ag] 26)).al (.cells #[.int .i8 0, .int .i64 0, .int .i64 0, .int .i64 0, .int .i64 0, .slice none 0 0, .slice none 0 0, .int .i64 0] 26)
  have hc := check_any c A1 D1 c1 e1 2 true _ _ h2 (Nat.le_refl _)
  have HC := Lib.hid hc
  have HB := Lib.hid (bal (bal (Below.refl w.heap.size w) (.cells #[.int .i8 c.st, .int .i64 c.pid, .int .i64 c.ep, .int .i64 c.tm, .int .i64 c.th, .slice A1 c.ps.length c1, .slice D1 c.qs.length e1, .int .i64 c.ag] 26)) (.cells #[.int .i8 0, .int .i64 0, .int .i64 0, .int .i64 0, .int .i64 0, .slice none 0 0, .slice none 0 0, .int .i64 0] 26))
  have K1 := Lib.hid ((Blk.new w 26 #[.int .i8 c.st, .int .i64 c.pid, .int .i64 c.ep, .int .i64 c.tm, .int .i64 c.th, .slice A1 c.ps.length c1, .slice D1 c.qs.length e1, .int .i64 c.ag]).alloc (.cells #[.int .i8 0, .int .i64 0, .int .i64 0, .int .i64 0, .int .i64 0, .slice none 0 0, .slice none 0 0, .int .i64 0] 26))
  have kk := Blk.new (w.alloc (.cells #[.int .i8 c.st, .int .i64 c.pid, .int .i64 c.ep, .int .i64 c.tm, .int .i64 c.th, .slice A1 c.ps.length c1, .slice D1 c.qs.length e1, .int .i64 c.ag] 26)) 26 #[.int .i8 0, .int .i64 0, .int .i64 0, .int .i64 0, .int .i64 0, .slice none 0 0, .slice none 0 0, .int .i64 0]
  rw [World.size_alloc] at kk
  have K2 := Lib.hid kk
  have HG := Lib.hid hg
  have H1 := Lib.hid h1
  have hps := h1.2.2.1
  have hqs := h1.2.2.2
  clear h2 hc kk h1 hg k2 he hco hn
  go_enter Tryd.func48, Tryd.ntmps48
  go_wp2_with fail
  refine HC.out.mono ?_
  rintro e w2 ⟨b2, hres⟩
  have hz2 := b2.size
  simp only [World.size_alloc] at hz2
  have bf := btrans HB.out b2
  obtain ⟨b, rfl, hc2, hbge, hblt⟩ : FaultAt n _ e w2 := by
    rcases hres with ⟨hz, _⟩ | ⟨_, hf⟩
    · exact absurd hz HK2.out
    · rw [HCK.out] at hf; exact hf
  clear hres
  have hcode := code_fault b n w2 (HG.out.up bf) hc2
  have HnE := Lib.hid hcode
  clear hcode hc2
  go_wp2_with fail
  refine HnE.out.mono ?_
  rintro e w3 ⟨rfl, b3⟩
  have k6 := (K2.out.below b2 (by simp only [World.size_alloc]; omega)).below b3 (by omega)
  have y0 := k6.cell 0
  have z0 := k6.frozen 0
  have y1 := k6.cell 1
  have z1 := k6.frozen 1
  have y2 := k6.cell 2
  have z2 := k6.frozen 2
  have y3 := k6.cell 3
  have z3 := k6.frozen 3
  have y4 := k6.cell 4
  have z4 := k6.frozen 4
  have y5 := k6.cell 5
  have z5 := k6.frozen 5
  have y6 := k6.cell 6
  have z6 := k6.frozen 6
  have y7 := k6.cell 7
  have z7 := k6.frozen 7
  have bg := btrans bf b3
  have hz3 := b3.size
  go_wp2_with fail
  refine bodyPost_ret (v := .tuple #[.agg #[.int .i8 0, .int .i64 0, .int .i64 0, .int .i64 0, .int .i64 0, .slice none 0 0, .slice none 0 0, .int .i64 0], .int .i64 n]) (by simp [results, Tryd.results48, go_sem, y0, y1, y2, y3, y4, y5, y6, y7]) rfl ?_
  rw [HE.out, HCO.out]
  exact ⟨none, none, 0, 0, rfl, CoR.zero _ _ _ _, (bset (bset (bset (bset (bset (bset (bset (bset bg (by omega) _) (by omega) _) (by omega) _) (by omega) _) (by omega) _) (by omega) _) (by omega) _) (by omega) _), NewAt.none_, NewAt.none_⟩

set_option maxRecDepth 100000 in
set_option maxHeartbeats 2000000 in
theorem Prepare_f (c : Co) (A1 D1 : Option Addr) (c1 e1 : Nat) (th : Int) (w : World) (h1 : CoR w w.heap.size c A1 D1) (hg : HasET w) (k1 : 0 < th ∧ th ≤ 20) (k2 : chkE c 2 true = 0) (k3 : 100 ≤ c.ep) :
    Calls Tryd.prog 48 #[(.agg #[.int .i8 c.st, .int .i64 c.pid, .int .i64 c.ep, .int .i64 c.tm, .int .i64 c.th, .slice A1 c.ps.length c1, .slice D1 c.qs.length e1, .int .i64 c.ag]), .bool false, .int .i64 th] w (MvPost (prepC c false th) (prepE c false th) w) := by
  have he : prepE c false th = 102 := by unfold prepE; rw [if_neg (by simp; omega), if_neg (by rw [k2]; simp), if_pos ⟨k1.1, k3⟩]
  have hco : prepC c false th = Co0 := by unfold prepC; rw [he, if_neg (by decide)]
  have HE := Lib.hid he
  have HCO := Lib.hid hco
  have HK2 := Lib.hid k2
  have d0 : decide (0 ≤ th) = true := decide_eq_true (by omega)
  have d1 : decide (th ≤ 20) = true := decide_eq_true (by omega)
  have d2 : decide (0 < th) = true := decide_eq_true (by omega)
  have d3 : decide (100 ≤ c.ep) = true := decide_eq_true (by omega)
  have h2 := (h1.al (.cells #[.int .i8 c.st, .int .i64 c.pid, .int .i64 c.ep, .int .i64 c.tm, .int .i64 c.th, .slice A1 c.ps.length c1, .slice D1 c.qs.length e1, .int .i64 c.ag] 26)).al (.cells #[.int .i8 0, .int .i64 0, .int .i64 0, .int .i64 0, .int .i64 0, .slice none 0 0, .slice none 0 0, .int .i64 0] 26)
  have hc := check_any c A1 D1 c1 e1 2 true _ _ h2 (Nat.le_refl _)
  have HC := Lib.hid hc
  have HB := Lib.hid (bal (bal (Below.refl w.heap.size w) (.cells #[.int .i8 c.st, .int .i64 c.pid, .int .i64 c.ep, .int .i64 c.tm, .int .i64 c.th, .slice A1 c.ps.length c1, .slice D1 c.qs.length e1, .int .i64 c.ag] 26)) (.cells #[.int .i8 0, .int .i64 0, .int .i64 0, .int .i64 0, .int .i64 0, .slice none 0 0, .slice none 0 0, .int .i64 0] 26))
  have K1 := Lib.hid ((Blk.new w 26 #[.int .i8 c.st, .int .i64 c.pid, .int .i64 c.ep, .int .i64 c.tm, .int .i64 c.th, .slice A1 c.ps.length c1, .slice D1 c.qs.length e1, .int .i64 c.ag]).alloc (.cells #[.int .i8 0, .int .i64 0, .int .i64 0, .int .i64 0, .int .i64 0, .slice none 0 0, .slice none 0 0, .int .i64 0] 26))
  have kk := Blk.new (w.alloc (.cells #[.int .i8 c.st, .int .i64 c.pid, .int .i64 c.ep, .int .i64 c.tm, .int .i64 c.th, .slice A1 c.ps.length c1, .slice D1 c.qs.length e1, .int .i64 c.ag] 26)) 26 #[.int .i8 0, .int .i64 0, .int .i64 0, .int .i64 0, .int .i64 0, .slice none 0 0, .slice none 0 0, .int .i64 0]
  rw [World.size_alloc] at kk
  have K2 := Lib.hid kk
  have HG := Lib.hid hg
  have H1 := Lib.hid h1
  have hps := h1.2.2.1
  have hqs := h1.2.2.2
  clear h2 hc kk h1 hg k1 k2 he hco
  go_enter Tryd.func48, Tryd.ntmps48
  go_wp2_with fail
  refine HC.out.mono ?_
  rintro e w2 ⟨b2, hres⟩
  have hz2 := b2.size
  simp only [World.size_alloc] at hz2
  have bf := btrans HB.out b2
  obtain rfl : e = .returned .nilIface := by
    rcases hres with ⟨_, h⟩ | ⟨hz, _⟩
    · exact h
    · exact absurd HK2.out hz
  clear hres
  have k5 := K1.out.below b2 (by simp only [World.size_alloc]; omega)
  have x0 := k5.cell 0
  have x1 := k5.cell 1
  have x2 := k5.cell 2
  have x3 := k5.cell 3
  have x4 := k5.cell 4
  have x5 := k5.cell 5
  have x6 := k5.cell 6
  have x7 := k5.cell 7
  have hcode := code_fault w2.heap.size 102 (w2.alloc (.cells #[.string ⟨#[97, 110, 32, 101, 112, 111, 99, 104]⟩, .int .i64 102] 94)) (HG.out.up (bal bf _)) ((Blk.new w2 94 #[.string ⟨#[97, 110, 32, 101, 112, 111, 99, 104]⟩, .int .i64 102]).cell 1)
  have HCODE := Lib.hid hcode
  clear hcode
  go_wp2_with fail
  refine HCODE.out.mono ?_
  rintro e w3 ⟨rfl, b3⟩
  have hz3 := b3.size
  simp only [World.size_alloc] at hz3
  have k6 := ((K2.out.below b2 (by simp only [World.size_alloc]; omega)).alloc (.cells #[.string ⟨#[97, 110, 32, 101, 112, 111, 99, 104]⟩, .int .i64 102] 94)).below b3 (by simp only [World.size_alloc]; omega)
  have y0 := k6.cell 0
  have z0 := k6.frozen 0
  have y1 := k6.cell 1
  have z1 := k6.frozen 1
  have y2 := k6.cell 2
  have z2 := k6.frozen 2
  have y3 := k6.cell 3
  have z3 := k6.frozen 3
  have y4 := k6.cell 4
  have z4 := k6.frozen 4
  have y5 := k6.cell 5
  have z5 := k6.frozen 5
  have y6 := k6.cell 6
  have z6 := k6.frozen 6
  have y7 := k6.cell 7
  have z7 := k6.frozen 7
  have bg := btrans (bal bf _) b3
  go_wp2_with fail
  refine bodyPost_ret (v := .tuple #[.agg #[.int .i8 0, .int .i64 0, .int .i64 0, .int .i64 0, .int .i64 0, .slice none 0 0, .slice none 0 0, .int .i64 0], .int .i64 102]) (by simp [results, Tryd.results48, go_sem, y0, y1, y2, y3, y4, y5, y6, y7]) rfl ?_
  rw [HE.out, HCO.out]
  exact ⟨none, none, 0, 0, rfl, CoR.zero _ _ _ _, (bset (bset (bset (bset (bset (bset (bset (bset bg (by omega) _) (by omega) _) (by omega) _) (by omega) _) (by omega) _) (by omega) _) (by omega) _) (by omega) _), NewAt.none_, NewAt.none_⟩

set_option maxRecDepth 100000 in
set_option maxHeartbeats 2000000 in
theorem Prepare_g (c : Co) (A1 D1 : Option Addr) (c1 e1 : Nat) (th : Int) (w : World) (h1 : CoR w w.heap.size c A1 D1) (hg : HasET w) (k1 : 0 < th ∧ th ≤ 20) (k3 : c.ep < 100) (k2 : chkE c 2 true = 0) :
    Calls Tryd.prog 48 #[(.agg #[.int .i8 c.st, .int .i64 c.pid, .int .i64 c.ep, .int .i64 c.tm, .int .i64 c.th, .slice A1 c.ps.length c1, .slice D1 c.qs.length e1, .int .i64 c.ag]), .bool false, .int .i64 th] w (MvPost (prepC c false th) (prepE c false th) w) := by
  have he : prepE c false th = 0 := by unfold prepE; rw [if_neg (by simp; omega), if_neg (by rw [k2]; simp), if_neg (by omega)]
  have hco : prepC c false th = { c with st := 4, th := th } := by unfold prepC; rw [he, if_pos rfl]; rfl
  have HE := Lib.hid he
  have HCO := Lib.hid hco
  have HK2 := Lib.hid k2
  have d0 : decide (0 ≤ th) = true := decide_eq_true (by omega)
  have d1 : decide (th ≤ 20) = true := decide_eq_true (by omega)
  have d2 : decide (0 < th) = true := decide_eq_true (by omega)
  have d3 : decide (100 ≤ c.ep) = false := decide_eq_false (by omega)
  have h2 := (h1.al (.cells #[.int .i8 c.st, .int .i64 c.pid, .int .i64 c.ep, .int .i64 c.tm, .int .i64 c.th, .slice A1 c.ps.length c1, .slice D1 c.qs.length e1, .int .i64 c.ag] 26)).al (.cells #[.int .i8 0, .int .i64 0, .int .i64 0, .int .i64 0, .int .i64 0, .slice none 0 0, .slice none 0 0, .int .i64 0] 26)
  have hc := check_any c A1 D1 c1 e1 2 true _ _ h2 (Nat.le_refl _)
  have HC := Lib.hid hc
  have HB := Lib.hid (bal (bal (Below.refl w.heap.size w) (.cells #[.int .i8 c.st, .int .i64 c.pid, .int .i64 c.ep, .int .i64 c.tm, .int .i64 c.th, .slice A1 c.ps.length c1, .slice D1 c.qs.length e1, .int .i64 c.ag] 26)) (.cells #[.int .i8 0, .int .i64 0, .int .i64 0, .int .i64 0, .int .i64 0, .slice none 0 0, .slice none 0 0, .int .i64 0] 26))
  have K1 := Lib.hid ((Blk.new w 26 #[.int .i8 c.st, .int .i64 c.pid, .int .i64 c.ep, .int .i64 c.tm, .int .i64 c.th, .slice A1 c.ps.length c1, .slice D1 c.qs.length e1, .int .i64 c.ag]).alloc (.cells #[.int .i8 0, .int .i64 0, .int .i64 0, .int .i64 0, .int .i64 0, .slice none 0 0, .slice none 0 0, .int .i64 0] 26))
  have kk := Blk.new (w.alloc (.cells #[.int .i8 c.st, .int .i64 c.pid, .int .i64 c.ep, .int .i64 c.tm, .int .i64 c.th, .slice A1 c.ps.length c1, .slice D1 c.qs.length e1, .int .i64 c.ag] 26)) 26 #[.int .i8 0, .int .i64 0, .int .i64 0, .int .i64 0, .int .i64 0, .slice none 0 0, .slice none 0 0, .int .i64 0]
  rw [World.size_alloc] at kk
  have K2 := Lib.hid kk
  have HG := Lib.hid hg
  have H1 := Lib.hid h1
  have hps := h1.2.2.1
  have hqs := h1.2.2.2
  clear h2 hc kk h1 hg k1 k3 k2 he hco
  go_enter Tryd.func48, Tryd.ntmps48
  go_wp2_with fail
  refine HC.out.mono ?_
  rintro e w2 ⟨b2, hres⟩
  have hz2 := b2.size
  simp only [World.size_alloc] at hz2
  have bf := btrans HB.out b2
  obtain rfl : e = .returned .nilIface := by
    rcases hres with ⟨_, h⟩ | ⟨hz, _⟩
    · exact h
    · exact absurd HK2.out hz
  clear hres
  have k5 := K1.out.below b2 (by simp only [World.size_alloc]; omega)
  have k6 := K2.out.below b2 (by simp only [World.size_alloc]; omega)
  have x0 := k5.cell 0
  have x1 := k5.cell 1
  have x2 := k5.cell 2
  have x3 := k5.cell 3
  have x4 := k5.cell 4
  have x5 := k5.cell 5
  have x6 := k5.cell 6
  have x7 := k5.cell 7
  have HOWN := Lib.hid (own_any c A1 D1 c1 e1 w2 (H1.out.up bf))
  go_wp2_with fail
  refine HOWN.out.mono ?_
  rintro e w3 ⟨A3, D3, c3, e3, rfl, r3, b3, f3, g3⟩
  have k7 := k6.below b3 (by omega)
  have hz3 := b3.size
  have hlt3 : w.heap.size + 1 < w3.heap.size := by omega
  have hne3 : ¬ w.heap.size + 1 = w3.heap.size := by omega
  have y0 := k7.cell 0
  have z0 := k7.frozen 0
  have y1 := k7.cell 1
  have z1 := k7.frozen 1
  have y2 := k7.cell 2
  have z2 := k7.frozen 2
  have y3 := k7.cell 3
  have z3 := k7.frozen 3
  have y4 := k7.cell 4
  have z4 := k7.frozen 4
  have y5 := k7.cell 5
  have z5 := k7.frozen 5
  have y6 := k7.cell 6
  have z6 := k7.frozen 6
  have y7 := k7.cell 7
  have z7 := k7.frozen 7
  have bg := btrans bf b3
  clear x0 x1 x2 x3 x4 x5 x6 x7
  go_wp2_with fail
  refine bodyPost_ret (v := .tuple #[.agg #[.int .i8 4, .int .i64 c.pid, .int .i64 c.ep, .int .i64 c.tm, .int .i64 th, .slice A3 c.ps.length c3, .slice D3 c.qs.length e3, .int .i64 c.ag], .int .i64 0]) (by simp [results, Tryd.results48, go_sem, y0, y1, y2, y3, y4, y5, y6, y7, hlt3, hne3]) rfl ?_
  rw [HE.out, HCO.out]
  refine ⟨A3, D3, c3, e3, rfl, ?_, ?_, f3.mono (by have := bf.size; omega), g3.mono (by have := bf.size; omega)⟩
  · exact CoR.al (CoR.sets (CoR.sets (CoR.sets (CoR.sets (CoR.sets (CoR.sets (CoR.sets (CoR.sets r3 f3 g3 (by omega) _) f3 g3 (by omega) _) f3 g3 (by omega) _) f3 g3 (by omega) _) f3 g3 (by omega) _) f3 g3 (by omega) _) f3 g3 (by omega) _) f3 g3 (by omega) _) _
  · exact bal (bset (bset (bset (bset (bset (bset (bset (bset bg (by omega) _) (by omega) _) (by omega) _) (by omega) _) (by omega) _) (by omega) _) (by omega) _) (by omega) _) _

set_option maxRecDepth 100000 in
set_option maxHeartbeats 2000000 in
theorem Prepare_h (c : Co) (A1 D1 : Option Addr) (c1 e1 : Nat) (w : World) (h1 : CoR w w.heap.size c A1 D1) (hg : HasET w)  (k2 : chkE c 2 true = 0) :
    Calls Tryd.prog 48 #[(.agg #[.int .i8 c.st, .int .i64 c.pid, .int .i64 c.ep, .int .i64 c.tm, .int .i64 c.th, .slice A1 c.ps.length c1, .slice D1 c.qs.length e1, .int .i64 c.ag]), .bool false, .int .i64 0] w (MvPost (prepC c false 0) (prepE c false 0) w) := by
  have he : prepE c false 0 = 0 := by unfold prepE; rw [if_neg (by simp), if_neg (by rw [k2]; simp), if_neg (by omega)]
  have hco : prepC c false 0 = { c with st := 4, th := 0 } := by unfold prepC; rw [he, if_pos rfl]; rfl
  have HE := Lib.hid he
  have HCO := Lib.hid hco
  have HK2 := Lib.hid k2
  have h2 := (h1.al (.cells #[.int .i8 c.st, .int .i64 c.pid, .int .i64 c.ep, .int .i64 c.tm, .int .i64 c.th, .slice A1 c.ps.length c1, .slice D1 c.qs.length e1, .int .i64 c.ag] 26)).al (.cells #[.int .i8 0, .int .i64 0, .int .i64 0, .int .i64 0, .int .i64 0, .slice none 0 0, .slice none 0 0, .int .i64 0] 26)
  have hc := check_any c A1 D1 c1 e1 2 true _ _ h2 (Nat.le_refl _)
  have HC := Lib.hid hc
  have HB := Lib.hid (bal (bal (Below.refl w.heap.size w) (.cells #[.int .i8 c.st, .int .i64 c.pid, .int .i64 c.ep, .int .i64 c.tm, .int .i64 c.th, .slice A1 c.ps.length c1, .slice D1 c.qs.length e1, .int .i64 c.ag] 26)) (.cells #[.int .i8 0, .int .i64 0, .int .i64 0, .int .i64 0, .int .i64 0, .slice none 0 0, .slice none 0 0, .int .i64 0] 26))
  have K1 := Lib.hid ((Blk.new w 26 #[.int .i8 c.st, .int .i64 c.pid, .int .i64 c.ep, .int .i64 c.tm, .int .i64 c.th, .slice A1 c.ps.length c1, .slice D1 c.qs.length e1, .int .i64 c.ag]).alloc (.cells #[.int .i8 0, .int .i64 0, .int .i64 0, .int .i64 0, .int .i64 0, .slice none 0 0, .slice none 0 0, .int .i64 0] 26))
  have kk := Blk.new (w.alloc (.cells #[.int .i8 c.st, .int .i64 c.pid, .int .i64 c.ep, .int .i64 c.tm, .int .i64 c.th, .slice A1 c.ps.length c1, .slice D1 c.qs.length e1, .int .i64 c.ag] 26)) 26 #[.int .i8 0, .int .i64 0, .int .i64 0, .int .i64 0, .int .i64 0, .slice none 0 0, .slice none 0 0, .int .i64 0]
  rw [World.size_alloc] at kk
  have K2 := Lib.hid kk
  have HG := Lib.hid hg
  have H1 := Lib.hid h1
  have hps := h1.2.2.1
  have hqs := h1.2.2.2
  clear h2 hc kk h1 hg k2 he hco
  go_enter Tryd.func48, Tryd.ntmps48
  go_wp2_with fail
  refine HC.out.mono ?_
  rintro e w2 ⟨b2, hres⟩
  have hz2 := b2.size
  simp only [World.size_alloc] at hz2
  have bf := btrans HB.out b2
  obtain rfl : e = .returned .nilIface := by
    rcases hres with ⟨_, h⟩ | ⟨hz, _⟩
    · exact h
    · exact absurd HK2.out hz
  clear hres
  have k5 := K1.out.below b2 (by simp only [World.size_alloc]; omega)
  have k6 := K2.out.below b2 (by simp only [World.size_alloc]; omega)
  have x0 := k5.cell 0
  have x1 := k5.cell 1
  have x2 := k5.cell 2
  have x3 := k5.cell 3
  have x4 := k5.cell 4
  have x5 := k5.cell 5
  have x6 := k5.cell 6
  have x7 := k5.cell 7
  have HOWN := Lib.hid (own_any c A1 D1 c1 e1 w2 (H1.out.up bf))
  go_wp2_with fail
  refine HOWN.out.mono ?_
  rintro e w3 ⟨A3, D3, c3, e3, rfl, r3, b3, f3, g3⟩
  have k7 := k6.below b3 (by omega)
  have hz3 := b3.size
  have hlt3 : w.heap.size + 1 < w3.heap.size := by omega
  have hne3 : ¬ w.heap.size + 1 = w3.heap.size := by omega
  have y0 := k7.cell 0
  have z0 := k7.frozen 0
  have y1 := k7.cell 1
  have z1 := k7.frozen 1
  have y2 := k7.cell 2
  have z2 := k7.frozen 2
  have y3 := k7.cell 3
  have z3 := k7.frozen 3
  have y4 := k7.cell 4
  have z4 := k7.frozen 4
  have y5 := k7.cell 5
  have z5 := k7.frozen 5
  have y6 := k7.cell 6
  have z6 := k7.frozen 6
  have y7 := k7.cell 7
  have z7 := k7.frozen 7
  have bg := btrans bf b3
  clear x0 x1 x2 x3 x4 x5 x6 x7
  go_wp2_with fail
  refine bodyPost_ret (v := .tuple #[.agg #[.int .i8 4, .int .i64 c.pid, .int .i64 c.ep, .int .i64 c.tm, .int .i64 0, .slice A3 c.ps.length c3, .slice D3 c.qs.length e3, .int .i64 c.ag], .int .i64 0]) (by simp [results, Tryd.results48, go_sem, y0, y1, y2, y3, y4, y5, y6, y7, hlt3, hne3]) rfl ?_
  rw [HE.out, HCO.out]
  refine ⟨A3, D3, c3, e3, rfl, ?_, ?_, f3.mono (by have := bf.size; omega), g3.mono (by have := bf.size; omega)⟩
  · exact CoR.al (CoR.sets (CoR.sets (CoR.sets (CoR.sets (CoR.sets (CoR.sets (CoR.sets (CoR.sets r3 f3 g3 (by omega) _) f3 g3 (by omega) _) f3 g3 (by omega) _) f3 g3 (by omega) _) f3 g3 (by omega) _) f3 g3 (by omega) _) f3 g3 (by omega) _) f3 g3 (by omega) _) _
  · exact bal (bset (bset (bset (bset (bset (bset (bset (bset bg (by omega) _) (by omega) _) (by omega) _) (by omega) _) (by omega) _) (by omega) _) (by omega) _) (by omega) _) _

set_option maxRecDepth 100000 in
set_option maxHeartbeats 2000000 in
theorem Prepare_i (c : Co) (A1 D1 : Option Addr) (c1 e1 : Nat) (w : World) (h1 : CoR w w.heap.size c A1 D1) (hg : HasET w)  (k2 : chkE c 2 true = 0) :
    Calls Tryd.prog 48 #[(.agg #[.int .i8 c.st, .int .i64 c.pid, .int .i64 c.ep, .int .i64 c.tm, .int .i64 c.th, .slice A1 c.ps.length c1, .slice D1 c.qs.length e1, .int .i64 c.ag]), .bool true, .int .i64 0] w (MvPost (prepC c true 0) (prepE c true 0) w) := by
  have he : prepE c true 0 = 0 := by unfold prepE; rw [if_neg (by simp), if_neg (by rw [k2]; simp), if_neg (by omega)]
  have hco : prepC c true 0 = { c with st := 3, th := 0 } := by unfold prepC; rw [he, if_pos rfl]; rfl
  have HE := Lib.hid he
  have HCO := Lib.hid hco
  have HK2 := Lib.hid k2
  have h2 := (h1.al (.cells #[.int .i8 c.st, .int .i64 c.pid, .int .i64 c.ep, .int .i64 c.tm, .int .i64 c.th, .slice A1 c.ps.length c1, .slice D1 c.qs.length e1, .int .i64 c.ag] 26)).al (.cells #[.int .i8 0, .int .i64 0, .int .i64 0, .int .i64 0, .int .i64 0, .slice none 0 0, .slice none 0 0, .int .i64 0] 26)
  have hc := check_any c A1 D1 c1 e1 2 true _ _ h2 (Nat.le_refl _)
  have HC := Lib.hid hc
  have HB := Lib.hid (bal (bal (Below.refl w.heap.size w) (.cells #[.int .i8 c.st, .int .i64 c.pid, .int .i64 c.ep, .int .i64 c.tm, .int .i64 c.th, .slice A1 c.ps.length c1, .slice D1 c.qs.length e1, .int .i64 c.ag] 26)) (.cells #[.int .i8 0, .int .i64 0, .int .i64 0, .int .i64 0, .int .i64 0, .slice none 0 0, .slice none 0 0, .int .i64 0] 26))
  have K1 := Lib.hid ((Blk.new w 26 #[.int .i8 c.st, .int .i64 c.pid, .int .i64 c.ep, .int .i64 c.tm, .int .i64 c.th, .slice A1 c.ps.length c1, .slice D1 c.qs.length e1, .int .i64 c.ag]).alloc (.cells #[.int .i8 0, .int .i64 0, .int .i64 0, .int .i64 0, .int .i64 0, .slice none 0 0, .slice none 0 0, .int .i64 0] 26))
  have kk := Blk.new (w.alloc (.cells #[.int .i8 c.st, .int .i64 c.pid, .int .i64 c.ep, .int .i64 c.tm, .int .i64 c.th, .slice A1 c.ps.length c1, .slice D1 c.qs.length e1, .int .i64 c.ag] 26)) 26 #[.int .i8 0, .int .i64 0, .int .i64 0, .int .i64 0, .int .i64 0, .slice none 0 0, .slice none 0 0, .int .i64 0]
  rw [World.size_alloc] at kk
  have K2 := Lib.hid kk
  have HG := Lib.hid hg
  have H1 := Lib.hid h1
  have hps := h1.2.2.1
  have hqs := h1.2.2.2
  clear h2 hc kk h1 hg k2 he hco
  go_enter Tryd.func48, Tryd.ntmps48
  go_wp2_with fail
  refine HC.out.mono ?_
  rintro e w2 ⟨b2, hres⟩
  have hz2 := b2.size
  simp only [World.size_alloc] at hz2
  have bf := btrans HB.out b2
  obtain rfl : e = .returned .nilIface := by
    rcases hres with ⟨_, h⟩ | ⟨hz, _⟩
    · exact h
    · exact absurd HK2.out hz
  clear hres
  have k5 := K1.out.below b2 (by simp only [World.size_alloc]; omega)
  have k6 := K2.out.below b2 (by simp only [World.size_alloc]; omega)
  have x0 := k5.cell 0
  have x1 := k5.cell 1
  have x2 := k5.cell 2
  have x3 := k5.cell 3
  have x4 := k5.cell 4
  have x5 := k5.cell 5
  have x6 := k5.cell 6
  have x7 := k5.cell 7
  have HOWN := Lib.hid (own_any c A1 D1 c1 e1 w2 (H1.out.up bf))
  go_wp2_with fail
  refine HOWN.out.mono ?_
  rintro e w3 ⟨A3, D3, c3, e3, rfl, r3, b3, f3, g3⟩
  have k7 := k6.below b3 (by omega)
  have hz3 := b3.size
  have hlt3 : w.heap.size + 1 < w3.heap.size := by omega
  have hne3 : ¬ w.heap.size + 1 = w3.heap.size := by omega
  have y0 := k7.cell 0
  have z0 := k7.frozen 0
  have y1 := k7.cell 1
  have z1 := k7.frozen 1
  have y2 := k7.cell 2
  have z2 := k7.frozen 2
  have y3 := k7.cell 3
  have z3 := k7.frozen 3
  have y4 := k7.cell 4
  have z4 := k7.frozen 4
  have y5 := k7.cell 5
  have z5 := k7.frozen 5
  have y6 := k7.cell 6
  have z6 := k7.frozen 6
  have y7 := k7.cell 7
  have z7 := k7.frozen 7
  have bg := btrans bf b3
  clear x0 x1 x2 x3 x4 x5 x6 x7
  go_wp2_with fail
  refine bodyPost_ret (v := .tuple #[.agg #[.int .i8 3, .int .i64 c.pid, .int .i64 c.ep, .int .i64 c.tm, .int .i64 0, .slice A3 c.ps.length c3, .slice D3 c.qs.length e3, .int .i64 c.ag], .int .i64 0]) (by simp [results, Tryd.results48, go_sem, y0, y1, y2, y3, y4, y5, y6, y7, hlt3, hne3]) rfl ?_
  rw [HE.out, HCO.out]
  refine ⟨A3, D3, c3, e3, rfl, ?_, ?_, f3.mono (by have := bf.size; omega), g3.mono (by have := bf.size; omega)⟩
  · exact CoR.al (CoR.sets (CoR.sets (CoR.sets (CoR.sets (CoR.sets (CoR.sets (CoR.sets (CoR.sets r3 f3 g3 (by omega) _) f3 g3 (by omega) _) f3 g3 (by omega) _) f3 g3 (by omega) _) f3 g3 (by omega) _) f3 g3 (by omega) _) f3 g3 (by omega) _) f3 g3 (by omega) _) _
  · exact bal (bset (bset (bset (bset (bset (bset (bset (bset bg (by omega) _) (by omega) _) (by omega) _) (by omega) _) (by omega) _) (by omega) _) (by omega) _) (by omega) _) _

theorem Prepare_any (c : Co) (A1 D1 : Option Addr) (c1 e1 : Nat) (yes : Bool) (th : Int) (w : World) (h1 : CoR w w.heap.size c A1 D1) (hg : HasET w) :
    Calls Tryd.prog 48 #[(.agg #[.int .i8 c.st, .int .i64 c.pid, .int .i64 c.ep, .int .i64 c.tm, .int .i64 c.th, .slice A1 c.ps.length c1, .slice D1 c.qs.length e1, .int .i64 c.ag]), .bool yes, .int .i64 th] w (MvPost (prepC c yes th) (prepE c yes th) w) := by
  rcases Int.lt_or_le th 0 with j1 | j1
  · exact Prepare_a c A1 D1 c1 e1 yes th w h1 hg j1
  rcases Int.lt_or_le 20 th with j2 | j2
  · exact Prepare_b c A1 D1 c1 e1 yes th w h1 hg j2
  by_cases j3 : th = 0
  · subst j3
    by_cases k2 : chkE c 2 true = 0
    · cases yes
      · exact Prepare_h c A1 D1 c1 e1 w h1 hg k2
      · exact Prepare_i c A1 D1 c1 e1 w h1 hg k2
    · cases yes
      · exact Prepare_d c A1 D1 c1 e1 0 w h1 hg ⟨j1, j2⟩ k2
      · exact Prepare_e c A1 D1 c1 e1 w h1 hg k2
  · cases yes
    · by_cases k2 : chkE c 2 true = 0
      · rcases Int.lt_or_le c.ep 100 with k3 | k3
        · exact Prepare_g c A1 D1 c1 e1 th w h1 hg ⟨by omega, j2⟩ k3 k2
        · exact Prepare_f c A1 D1 c1 e1 th w h1 hg ⟨by omega, j2⟩ k2 k3
      · exact Prepare_d c A1 D1 c1 e1 th w h1 hg ⟨j1, j2⟩ k2
    · exact Prepare_c c A1 D1 c1 e1 th w h1 hg ⟨by omega, j2⟩
end Go.Proofs.YtbpkckahonmpkaaDoor
namespace Go.Proofs.YtbpkckahonmpkaaDoor
open Go.RowKit

/-- A move. -/
structure Mv where
  k : Int
  a : Int
  b : Int
  p : Pd
  yes : Bool
  l : List Int
noncomputable def mvE (c : Co) (x : Mv) : Int :=
  if x.k = 0 then initE c x.a x.b else if x.k = 1 then addE c x.a else if x.k = 2 then setE c x.p else if x.k = 3 then prepE c x.yes x.a else if x.k = 4 then chkE c 3 true else if x.k = 5 then 0 else placeE c x.l
noncomputable def mvC (c : Co) (x : Mv) : Co :=
  if x.k = 0 then initC c x.a x.b else if x.k = 1 then addC c x.a else if x.k = 2 then setC c x.p else if x.k = 3 then prepC c x.yes x.a else if x.k = 4 then compC c else if x.k = 5 then tickC c else placeC c x.l
/-- What a move leaves: a transactional id, a code; nothing that was there is changed. -/
def MvP (c : Co) (A D : Option Addr) (d : Co) (code : Int) (w : World) (e : Ending) (w' : World) : Prop :=
  ∃ (A1 D1 : Option Addr) (c1 e1 : Nat), e = .returned (.tuple #[(.agg #[.int .i8 d.st, .int .i64 d.pid, .int .i64 d.ep, .int .i64 d.tm, .int .i64 d.th, .slice A1 d.ps.length c1, .slice D1 d.qs.length e1, .int .i64 d.ag]), .int .i64 code]) ∧ CoR w' w'.heap.size d A1 D1 ∧ Below w.heap.size w w' ∧ ∀ b, b < w.heap.size → OffB b c.ps.length A → OffB b c.qs.length D → OffB b d.ps.length A1 ∧ OffB b d.qs.length D1
theorem reads_hold {w w' : World} {B size n : Nat} {A : Option Addr} {xs : List Value} (h : Reads w B size A n xs) (hA : 0 < n → ∀ ad, A = some ad → w'.heap[ad.block]? = w.heap[ad.block]?) : Reads w' B size A n xs :=
  ⟨h.1, fun hn => by
    obtain ⟨ad, rfl, hb, hc⟩ := h.2 hn
    refine ⟨ad, rfl, hb, fun j u hu => ?_⟩
    rw [← hc j u hu]
    exact World.cell?_of_block (by rw [block_of_add]; exact hA hn ad rfl)⟩
theorem newAt_block {lo n : Nat} {A : Option Addr} (h : NewAt lo n A) (hn : 0 < n) {ad : Addr} (e : A = some ad) : lo ≤ ad.block := by
  obtain ⟨x, hx, hb⟩ := h hn
  rw [e] at hx
  injection hx with hx
  subst hx
  exact hb
/-- The lists of a transactional id keep, where one block below them is filled anew. -/
theorem CoR.hold {w w' : World} {c : Co} {A D : Option Addr} {lo b : Nat} (h : CoR w w.heap.size c A D) (f : NewAt lo c.ps.length A) (g : NewAt lo c.qs.length D) (hb : b < lo) (k : ∀ y, y ≠ b → w'.heap[y]? = w.heap[y]?) (hs : w'.heap.size = w.heap.size) : CoR w' w'.heap.size c A D := by
  rw [hs]
  exact ⟨reads_hold h.1 (fun hn ad e => k _ (by have := newAt_block f hn e; omega)), reads_hold h.2.1 (fun hn ad e => k _ (by have := newAt_block g hn e; omega)), h.2.2⟩
theorem may_ep {c : Co} (h : mayB c = true) : 0 ≤ c.ep ∧ c.ep ≤ 100 := by
  by_cases h0 : c.st = 0
  · rw [may_none h h0]; exact ⟨by decide, by decide⟩
  have h1 := may_range h h0
  unfold rangeB at h1
  simp only [Bool.and_eq_true, decide_eq_true_eq] at h1
  omega
theorem Init_all (c : Co) (A1 D1 : Option Addr) (c1 e1 : Nat) (pid tm : Int) (w : World) (h1 : CoR w w.heap.size c A1 D1) (hg : HasET w) :
    Calls Tryd.prog 46 #[(.agg #[.int .i8 c.st, .int .i64 c.pid, .int .i64 c.ep, .int .i64 c.tm, .int .i64 c.th, .slice A1 c.ps.length c1, .slice D1 c.qs.length e1, .int .i64 c.ag]), .int .i64 pid, .int .i64 tm] w (MvPost (initC c pid tm) (initE c pid tm) w) := by
  by_cases k2 : chkE c 0 true = 0
  · exact Init_any c A1 D1 c1 e1 pid tm w h1 hg (by have := may_ep (chk_may k2).1; omega)
  · by_cases k1 : 1 ≤ pid ∧ pid ≤ 8 ∧ 1 ≤ tm ∧ tm ≤ 20
    · exact Init_e c A1 D1 c1 e1 pid tm w h1 hg k1 k2
    · have h : pid < 1 ∨ 8 < pid ∨ (1 ≤ pid ∧ pid ≤ 8 ∧ tm < 1) ∨ (1 ≤ pid ∧ pid ≤ 8 ∧ 20 < tm) := by omega
      rcases h with h | h | h | h
      · exact Init_a c A1 D1 c1 e1 pid tm w h1 hg h
      · exact Init_b c A1 D1 c1 e1 pid tm w h1 hg h
      · exact Init_c c A1 D1 c1 e1 pid tm w h1 hg h
      · exact Init_d c A1 D1 c1 e1 pid tm w h1 hg h
theorem Complete_all (c : Co) (A1 D1 : Option Addr) (c1 e1 : Nat) (w : World) (h1 : CoR w w.heap.size c A1 D1) (hg : HasET w) :
    Calls Tryd.prog 49 #[(.agg #[.int .i8 c.st, .int .i64 c.pid, .int .i64 c.ep, .int .i64 c.tm, .int .i64 c.th, .slice A1 c.ps.length c1, .slice D1 c.qs.length e1, .int .i64 c.ag])] w (MvPost (compC c) (chkE c 3 true) w) := by
  by_cases k2 : chkE c 3 true = 0
  · have := may_ep (chk_may k2).1
    exact Complete_any c A1 D1 c1 e1 w h1 hg (by omega) (by omega)
  · exact Complete_a c A1 D1 c1 e1 w h1 hg k2
section
attribute [-go_sem] loadCells storeVar
end
end Go.Proofs.YtbpkckahonmpkaaDoor
