/-
  Layer 18: states.May.
-/
import Derived.Test.YtbpkckahonmpkaaGreatDoorMlFramesProofP02
set_option linter.unusedVariables false
set_option linter.unusedSimpArgs false
namespace Go.Proofs.YtbpkckahonmpkaaGreatDoor
open Go.RowKit

noncomputable def tailB (c : Co) : Bool := !(decide (c.th < 0) || (decide (20 < c.th) || (decide (0 < c.th) && decide (100 ≤ c.ep)))) && rangeB c
noncomputable def idleB (c : Co) : Bool := (c.th == 0) && ((c.ag == 0) && (decide (c.ps.length = 0) && (decide (c.qs.length = 0) && rangeB c)))
noncomputable def mayB (c : Co) : Bool :=
  if c.st = 0 then sameB c Co0
  else if c.st = 2 then !(decide (c.ps.length = 0) && decide (c.qs.length = 0)) && ((c.th == 0) && tailB c)
  else if c.st = 3 then (c.th == 0) && tailB c
  else if c.st = 4 then tailB c
  else if c.st = 1 ∨ c.st = 5 ∨ c.st = 6 then idleB c
  else false

set_option maxRecDepth 100000 in
set_option maxHeartbeats 1000000 in
theorem may_0_0 (c : Co) (A1 D1 : Option Addr) (c1 e1 : Nat) (B : Nat) (w : World) (h1 : CoR w B c A1 D1) (hB : B ≤ w.heap.size) (hst : c.st = 0) :
    Calls Tryz.prog 44 #[(.agg #[.int .i8 c.st, .int .i64 c.pid, .int .i64 c.ep, .int .i64 c.tm, .int .i64 c.th, .slice A1 c.ps.length c1, .slice D1 c.qs.length e1, .int .i64 c.ag])] w fun e w' => e = .returned (.bool (mayB c)) ∧ Below w.heap.size w w' := by
  have hs : mayB c = sameB c Co0 := by unfold mayB; rw [if_pos hst]
  have HB := Lib.hid (fun x => bal (Below.refl w.heap.size w) x)
  have HR := Lib.hid (fun x => inRange_any c A1 D1 c1 e1 B (w.alloc x) (h1.below (((Below.refl w.heap.size w).alloc (Nat.le_refl _) x).mono hB)) (by simp; omega))
  have HSM := Lib.hid (fun x => Same_any c Co0 A1 D1 c1 e1 none none 0 0 B B (w.alloc x) (h1.below (((Below.refl w.heap.size w).alloc (Nat.le_refl _) x).mono hB)) (CoR.zero _ _ _ _) (by simp; omega) (by simp; omega))
  have d0 : (c.st == 0) = true := beq_iff_eq.2 hst
  have d2 : (c.st == 2) = false := beq_eq_false_iff_ne.2 (by omega)
  have d3 : (c.st == 3) = false := beq_eq_false_iff_ne.2 (by omega)
  have d4 : (c.st == 4) = false := beq_eq_false_iff_ne.2 (by omega)
  have d1 : (c.st == 1) = false := beq_eq_false_iff_ne.2 (by omega)
  have d5 : (c.st == 5) = false := beq_eq_false_iff_ne.2 (by omega)
  have d6 : (c.st == 6) = false := beq_eq_false_iff_ne.2 (by omega)
  generalize rangeB c = br at *
  generalize sameB c Co0 = bs0 at *
  have HS := Lib.hid hs
  clear hs h1 hst 
  go_enter Tryz.func44, Tryz.ntmps44
  go_wp2_with (first | (go_at_call 72; refine (HR.out _).mono ?_; rintro e w1 ⟨rfl, hbr⟩) | (go_at_call 49; refine (HSM.out _).mono ?_; rintro e w1 ⟨rfl, hbr⟩))
  go_ret
  refine ⟨ret_bool HS.out.symm, ?_⟩
  first | exact HB.out _ | exact btrans (HB.out _) hbr

set_option maxRecDepth 100000 in
set_option maxHeartbeats 1000000 in
theorem may_x_0 (c : Co) (A1 D1 : Option Addr) (c1 e1 : Nat) (B : Nat) (w : World) (h1 : CoR w B c A1 D1) (hB : B ≤ w.heap.size) (hst : c.st < 0 ∨ 6 < c.st) :
    Calls Tryz.prog 44 #[(.agg #[.int .i8 c.st, .int .i64 c.pid, .int .i64 c.ep, .int .i64 c.tm, .int .i64 c.th, .slice A1 c.ps.length c1, .slice D1 c.qs.length e1, .int .i64 c.ag])] w fun e w' => e = .returned (.bool (mayB c)) ∧ Below w.heap.size w w' := by
  have hs : mayB c = false := by
    unfold mayB
    rw [if_neg (by omega), if_neg (by omega), if_neg (by omega), if_neg (by omega), if_neg (by omega)]
  have HB := Lib.hid (fun x => bal (Below.refl w.heap.size w) x)
  have HR := Lib.hid (fun x => inRange_any c A1 D1 c1 e1 B (w.alloc x) (h1.below (((Below.refl w.heap.size w).alloc (Nat.le_refl _) x).mono hB)) (by simp; omega))
  have HSM := Lib.hid (fun x => Same_any c Co0 A1 D1 c1 e1 none none 0 0 B B (w.alloc x) (h1.below (((Below.refl w.heap.size w).alloc (Nat.le_refl _) x).mono hB)) (CoR.zero _ _ _ _) (by simp; omega) (by simp; omega))
  have d0 : (c.st == 0) = false := beq_eq_false_iff_ne.2 (by omega)
  have d2 : (c.st == 2) = false := beq_eq_false_iff_ne.2 (by omega)
  have d3 : (c.st == 3) = false := beq_eq_false_iff_ne.2 (by omega)
  have d4 : (c.st == 4) = false := beq_eq_false_iff_ne.2 (by omega)
  have d1 : (c.st == 1) = false := beq_eq_false_iff_ne.2 (by omega)
  have d5 : (c.st == 5) = false := beq_eq_false_iff_ne.2 (by omega)
  have d6 : (c.st == 6) = false := beq_eq_false_iff_ne.2 (by omega)
  generalize rangeB c = br at *
  generalize sameB c Co0 = bs0 at *
  have HS := Lib.hid hs
  clear hs h1 hst 
  go_enter Tryz.func44, Tryz.ntmps44
  go_wp2_with (first | (go_at_call 72; refine (HR.out _).mono ?_; rintro e w1 ⟨rfl, hbr⟩) | (go_at_call 49; refine (HSM.out _).mono ?_; rintro e w1 ⟨rfl, hbr⟩))
  go_ret
  refine ⟨ret_bool HS.out.symm, ?_⟩
  first | exact HB.out _ | exact btrans (HB.out _) hbr

set_option maxRecDepth 100000 in
set_option maxHeartbeats 1000000 in
theorem may_2_0 (c : Co) (A1 D1 : Option Addr) (c1 e1 : Nat) (B : Nat) (w : World) (h1 : CoR w B c A1 D1) (hB : B ≤ w.heap.size) (hst : c.st = 2) (h2 : c.ps.length = 0) (h3 : c.qs.length = 0) :
    Calls Tryz.prog 44 #[(.agg #[.int .i8 c.st, .int .i64 c.pid, .int .i64 c.ep, .int .i64 c.tm, .int .i64 c.th, .slice A1 c.ps.length c1, .slice D1 c.qs.length e1, .int .i64 c.ag])] w fun e w' => e = .returned (.bool (mayB c)) ∧ Below w.heap.size w w' := by
  have hs : mayB c = false := by
    unfold mayB
    rw [if_neg (by omega), if_pos hst]
    simp only [tailB]
    generalize rangeB c = br
    generalize c.ps.length = n at *
    generalize c.qs.length = m at *
    cases br <;> simp <;> omega
  have HB := Lib.hid (fun x => bal (Below.refl w.heap.size w) x)
  have HR := Lib.hid (fun x => inRange_any c A1 D1 c1 e1 B (w.alloc x) (h1.below (((Below.refl w.heap.size w).alloc (Nat.le_refl _) x).mono hB)) (by simp; omega))
  have HSM := Lib.hid (fun x => Same_any c Co0 A1 D1 c1 e1 none none 0 0 B B (w.alloc x) (h1.below (((Below.refl w.heap.size w).alloc (Nat.le_refl _) x).mono hB)) (CoR.zero _ _ _ _) (by simp; omega) (by simp; omega))
  have d0 : (c.st == 0) = false := beq_eq_false_iff_ne.2 (by omega)
  have d2 : (c.st == 2) = true := beq_iff_eq.2 hst
  have d3 : (c.st == 3) = false := beq_eq_false_iff_ne.2 (by omega)
  have d4 : (c.st == 4) = false := beq_eq_false_iff_ne.2 (by omega)
  have d1 : (c.st == 1) = false := beq_eq_false_iff_ne.2 (by omega)
  have d5 : (c.st == 5) = false := beq_eq_false_iff_ne.2 (by omega)
  have d6 : (c.st == 6) = false := beq_eq_false_iff_ne.2 (by omega)
  have d10 : ((c.ps.length : Int) == 0) = true := beq_iff_eq.2 (by omega)
  have d11 : ((c.qs.length : Int) == 0) = true := beq_iff_eq.2 (by omega)
  generalize rangeB c = br at *
  generalize sameB c Co0 = bs0 at *
  have HS := Lib.hid hs
  clear hs h1 hst h2 h3
  go_enter Tryz.func44, Tryz.ntmps44
  go_wp2_with (first | (go_at_call 72; refine (HR.out _).mono ?_; rintro e w1 ⟨rfl, hbr⟩) | (go_at_call 49; refine (HSM.out _).mono ?_; rintro e w1 ⟨rfl, hbr⟩))
  go_ret
  refine ⟨ret_bool HS.out.symm, ?_⟩
  first | exact HB.out _ | exact btrans (HB.out _) hbr

set_option maxRecDepth 100000 in
set_option maxHeartbeats 1000000 in
theorem may_2_1 (c : Co) (A1 D1 : Option Addr) (c1 e1 : Nat) (B : Nat) (w : World) (h1 : CoR w B c A1 D1) (hB : B ≤ w.heap.size) (hst : c.st = 2) (h2 : c.ps.length = 0) (h3 : 0 < c.qs.length) (h4 : c.th < 0 ∨ 0 < c.th) :
    Calls Tryz.prog 44 #[(.agg #[.int .i8 c.st, .int .i64 c.pid, .int .i64 c.ep, .int .i64 c.tm, .int .i64 c.th, .slice A1 c.ps.length c1, .slice D1 c.qs.length e1, .int .i64 c.ag])] w fun e w' => e = .returned (.bool (mayB c)) ∧ Below w.heap.size w w' := by
  have hs : mayB c = false := by
    unfold mayB
    rw [if_neg (by omega), if_pos hst]
    simp only [tailB]
    generalize rangeB c = br
    generalize c.ps.length = n at *
    generalize c.qs.length = m at *
    cases br <;> simp <;> omega
  have HB := Lib.hid (fun x => bal (Below.refl w.heap.size w) x)
  have HR := Lib.hid (fun x => inRange_any c A1 D1 c1 e1 B (w.alloc x) (h1.below (((Below.refl w.heap.size w).alloc (Nat.le_refl _) x).mono hB)) (by simp; omega))
  have HSM := Lib.hid (fun x => Same_any c Co0 A1 D1 c1 e1 none none 0 0 B B (w.alloc x) (h1.below (((Below.refl w.heap.size w).alloc (Nat.le_refl _) x).mono hB)) (CoR.zero _ _ _ _) (by simp; omega) (by simp; omega))
  have d0 : (c.st == 0) = false := beq_eq_false_iff_ne.2 (by omega)
  have d2 : (c.st == 2) = true := beq_iff_eq.2 hst
  have d3 : (c.st == 3) = false := beq_eq_false_iff_ne.2 (by omega)
  have d4 : (c.st == 4) = false := beq_eq_false_iff_ne.2 (by omega)
  have d1 : (c.st == 1) = false := beq_eq_false_iff_ne.2 (by omega)
  have d5 : (c.st == 5) = false := beq_eq_false_iff_ne.2 (by omega)
  have d6 : (c.st == 6) = false := beq_eq_false_iff_ne.2 (by omega)
  have d10 : ((c.ps.length : Int) == 0) = true := beq_iff_eq.2 (by omega)
  have d11 : ((c.qs.length : Int) == 0) = false := beq_eq_false_iff_ne.2 (by omega)
  have d12 : (c.th != 0) = true := by simp; omega
  generalize rangeB c = br at *
  generalize sameB c Co0 = bs0 at *
  have HS := Lib.hid hs
  clear hs h1 hst h2 h3 h4
  go_enter Tryz.func44, Tryz.ntmps44
  go_wp2_with (first | (go_at_call 72; refine (HR.out _).mono ?_; rintro e w1 ⟨rfl, hbr⟩) | (go_at_call 49; refine (HSM.out _).mono ?_; rintro e w1 ⟨rfl, hbr⟩))
  go_ret
  refine ⟨ret_bool HS.out.symm, ?_⟩
  first | exact HB.out _ | exact btrans (HB.out _) hbr

set_option maxRecDepth 100000 in
set_option maxHeartbeats 1000000 in
theorem may_2_2 (c : Co) (A1 D1 : Option Addr) (c1 e1 : Nat) (B : Nat) (w : World) (h1 : CoR w B c A1 D1) (hB : B ≤ w.heap.size) (hst : c.st = 2) (h2 : c.ps.length = 0) (h3 : 0 < c.qs.length) (h4 : c.th = 0) :
    Calls Tryz.prog 44 #[(.agg #[.int .i8 c.st, .int .i64 c.pid, .int .i64 c.ep, .int .i64 c.tm, .int .i64 c.th, .slice A1 c.ps.length c1, .slice D1 c.qs.length e1, .int .i64 c.ag])] w fun e w' => e = .returned (.bool (mayB c)) ∧ Below w.heap.size w w' := by
  have hs : mayB c = rangeB c := by
    unfold mayB
    rw [if_neg (by omega), if_pos hst]
    simp only [tailB]
    generalize rangeB c = br
    generalize c.ps.length = n at *
    generalize c.qs.length = m at *
    cases br <;> simp <;> omega
  have HB := Lib.hid (fun x => bal (Below.refl w.heap.size w) x)
  have HR := Lib.hid (fun x => inRange_any c A1 D1 c1 e1 B (w.alloc x) (h1.below (((Below.refl w.heap.size w).alloc (Nat.le_refl _) x).mono hB)) (by simp; omega))
  have HSM := Lib.hid (fun x => Same_any c Co0 A1 D1 c1 e1 none none 0 0 B B (w.alloc x) (h1.below (((Below.refl w.heap.size w).alloc (Nat.le_refl _) x).mono hB)) (CoR.zero _ _ _ _) (by simp; omega) (by simp; omega))
  have d0 : (c.st == 0) = false := beq_eq_false_iff_ne.2 (by omega)
  have d2 : (c.st == 2) = true := beq_iff_eq.2 hst
  have d3 : (c.st == 3) = false := beq_eq_false_iff_ne.2 (by omega)
  have d4 : (c.st == 4) = false := beq_eq_false_iff_ne.2 (by omega)
  have d1 : (c.st == 1) = false := beq_eq_false_iff_ne.2 (by omega)
  have d5 : (c.st == 5) = false := beq_eq_false_iff_ne.2 (by omega)
  have d6 : (c.st == 6) = false := beq_eq_false_iff_ne.2 (by omega)
  have d10 : ((c.ps.length : Int) == 0) = true := beq_iff_eq.2 (by omega)
  have d11 : ((c.qs.length : Int) == 0) = false := beq_eq_false_iff_ne.2 (by omega)
  have d12 : (c.th != 0) = false := by simp; omega
  have d13 : decide (c.th < 0) = false := by simp; omega
  have d14 : decide (20 < c.th) = false := by simp; omega
  have d15 : decide (0 < c.th) = false := by simp; omega
  generalize rangeB c = br at *
  generalize sameB c Co0 = bs0 at *
  have HS := Lib.hid hs
  clear hs h1 hst h2 h3 h4
  go_enter Tryz.func44, Tryz.ntmps44
  go_wp2_with (first | (go_at_call 72; refine (HR.out _).mono ?_; rintro e w1 ⟨rfl, hbr⟩) | (go_at_call 49; refine (HSM.out _).mono ?_; rintro e w1 ⟨rfl, hbr⟩))
  go_ret
  refine ⟨ret_bool HS.out.symm, ?_⟩
  first | exact HB.out _ | exact btrans (HB.out _) hbr

set_option maxRecDepth 100000 in
set_option maxHeartbeats 1000000 in
theorem may_2_3 (c : Co) (A1 D1 : Option Addr) (c1 e1 : Nat) (B : Nat) (w : World) (h1 : CoR w B c A1 D1) (hB : B ≤ w.heap.size) (hst : c.st = 2) (h2 : 0 < c.ps.length) (h3 : c.th < 0 ∨ 0 < c.th) :
    Calls Tryz.prog 44 #[(.agg #[.int .i8 c.st, .int .i64 c.pid, .int .i64 c.ep, .int .i64 c.tm, .int .i64 c.th, .slice A1 c.ps.length c1, .slice D1 c.qs.length e1, .int .i64 c.ag])] w fun e w' => e = .returned (.bool (mayB c)) ∧ Below w.heap.size w w' := by
  have hs : mayB c = false := by
    unfold mayB
    rw [if_neg (by omega), if_pos hst]
    simp only [tailB]
    generalize rangeB c = br
    generalize c.ps.length = n at *
    generalize c.qs.length = m at *
    cases br <;> simp <;> omega
  have HB := Lib.hid (fun x => bal (Below.refl w.heap.size w) x)
  have HR := Lib.hid (fun x => inRange_any c A1 D1 c1 e1 B (w.alloc x) (h1.below (((Below.refl w.heap.size w).alloc (Nat.le_refl _) x).mono hB)) (by simp; omega))
  have HSM := Lib.hid (fun x => Same_any c Co0 A1 D1 c1 e1 none none 0 0 B B (w.alloc x) (h1.below (((Below.refl w.heap.size w).alloc (Nat.le_refl _) x).mono hB)) (CoR.zero _ _ _ _) (by simp; omega) (by simp; omega))
  have d0 : (c.st == 0) = false := beq_eq_false_iff_ne.2 (by omega)
  have d2 : (c.st == 2) = true := beq_iff_eq.2 hst
  have d3 : (c.st == 3) = false := beq_eq_false_iff_ne.2 (by omega)
  have d4 : (c.st == 4) = false := beq_eq_false_iff_ne.2 (by omega)
  have d1 : (c.st == 1) = false := beq_eq_false_iff_ne.2 (by omega)
  have d5 : (c.st == 5) = false := beq_eq_false_iff_ne.2 (by omega)
  have d6 : (c.st == 6) = false := beq_eq_false_iff_ne.2 (by omega)
  have d10 : ((c.ps.length : Int) == 0) = false := beq_eq_false_iff_ne.2 (by omega)
  have d11 : (c.th != 0) = true := by simp; omega
  generalize rangeB c = br at *
  generalize sameB c Co0 = bs0 at *
  have HS := Lib.hid hs
  clear hs h1 hst h2 h3
  go_enter Tryz.func44, Tryz.ntmps44
  go_wp2_with (first | (go_at_call 72; refine (HR.out _).mono ?_; rintro e w1 ⟨rfl, hbr⟩) | (go_at_call 49; refine (HSM.out _).mono ?_; rintro e w1 ⟨rfl, hbr⟩))
  go_ret
  refine ⟨ret_bool HS.out.symm, ?_⟩
  first | exact HB.out _ | exact btrans (HB.out _) hbr

set_option maxRecDepth 100000 in
set_option maxHeartbeats 1000000 in
theorem may_2_4 (c : Co) (A1 D1 : Option Addr) (c1 e1 : Nat) (B : Nat) (w : World) (h1 : CoR w B c A1 D1) (hB : B ≤ w.heap.size) (hst : c.st = 2) (h2 : 0 < c.ps.length) (h3 : c.th = 0) :
    Calls Tryz.prog 44 #[(.agg #[.int .i8 c.st, .int .i64 c.pid, .int .i64 c.ep, .int .i64 c.tm, .int .i64 c.th, .slice A1 c.ps.length c1, .slice D1 c.qs.length e1, .int .i64 c.ag])] w fun e w' => e = .returned (.bool (mayB c)) ∧ Below w.heap.size w w' := by
  have hs : mayB c = rangeB c := by
    unfold mayB
    rw [if_neg (by omega), if_pos hst]
    simp only [tailB]
    generalize rangeB c = br
    generalize c.ps.length = n at *
    generalize c.qs.length = m at *
    cases br <;> simp <;> omega
  have HB := Lib.hid (fun x => bal (Below.refl w.heap.size w) x)
  have HR := Lib.hid (fun x => inRange_any c A1 D1 c1 e1 B (w.alloc x) (h1.below (((Below.refl w.heap.size w).alloc (Nat.le_refl _) x).mono hB)) (by simp; omega))
  have HSM := Lib.hid (fun x => Same_any c Co0 A1 D1 c1 e1 none none 0 0 B B (w.alloc x) (h1.below (((Below.refl w.heap.size w).alloc (Nat.le_refl _) x).mono hB)) (CoR.zero _ _ _ _) (by simp; omega) (by simp; omega))
  have d0 : (c.st == 0) = false := beq_eq_false_iff_ne.2 (by omega)
  have d2 : (c.st == 2) = true := beq_iff_eq.2 hst
  have d3 : (c.st == 3) = false := beq_eq_false_iff_ne.2 (by omega)
  have d4 : (c.st == 4) = false := beq_eq_false_iff_ne.2 (by omega)
  have d1 : (c.st == 1) = false := beq_eq_false_iff_ne.2 (by omega)
  have d5 : (c.st == 5) = false := beq_eq_false_iff_ne.2 (by omega)
  have d6 : (c.st == 6) = false := beq_eq_false_iff_ne.2 (by omega)
  have d10 : ((c.ps.length : Int) == 0) = false := beq_eq_false_iff_ne.2 (by omega)
  have d11 : (c.th != 0) = false := by simp; omega
  have d12 : decide (c.th < 0) = false := by simp; omega
  have d13 : decide (20 < c.th) = false := by simp; omega
  have d14 : decide (0 < c.th) = false := by simp; omega
  generalize rangeB c = br at *
  generalize sameB c Co0 = bs0 at *
  have HS := Lib.hid hs
  clear hs h1 hst h2 h3
  go_enter Tryz.func44, Tryz.ntmps44
  go_wp2_with (first | (go_at_call 72; refine (HR.out _).mono ?_; rintro e w1 ⟨rfl, hbr⟩) | (go_at_call 49; refine (HSM.out _).mono ?_; rintro e w1 ⟨rfl, hbr⟩))
  go_ret
  refine ⟨ret_bool HS.out.symm, ?_⟩
  first | exact HB.out _ | exact btrans (HB.out _) hbr

set_option maxRecDepth 100000 in
set_option maxHeartbeats 1000000 in
theorem may_3_0 (c : Co) (A1 D1 : Option Addr) (c1 e1 : Nat) (B : Nat) (w : World) (h1 : CoR w B c A1 D1) (hB : B ≤ w.heap.size) (hst : c.st = 3) (h2 : c.th < 0 ∨ 0 < c.th) :
    Calls Tryz.prog 44 #[(.agg #[.int .i8 c.st, .int .i64 c.pid, .int .i64 c.ep, .int .i64 c.tm, .int .i64 c.th, .slice A1 c.ps.length c1, .slice D1 c.qs.length e1, .int .i64 c.ag])] w fun e w' => e = .returned (.bool (mayB c)) ∧ Below w.heap.size w w' := by
  have hs : mayB c = false := by
    unfold mayB
    rw [if_neg (by omega), if_neg (by omega), if_pos hst]
    simp only [tailB]
    generalize rangeB c = br
    generalize c.ps.length = n at *
    generalize c.qs.length = m at *
    cases br <;> simp <;> omega
  have HB := Lib.hid (fun x => bal (Below.refl w.heap.size w) x)
  have HR := Lib.hid (fun x => inRange_any c A1 D1 c1 e1 B (w.alloc x) (h1.below (((Below.refl w.heap.size w).alloc (Nat.le_refl _) x).mono hB)) (by simp; omega))
  have HSM := Lib.hid (fun x => Same_any c Co0 A1 D1 c1 e1 none none 0 0 B B (w.alloc x) (h1.below (((Below.refl w.heap.size w).alloc (Nat.le_refl _) x).mono hB)) (CoR.zero _ _ _ _) (by simp; omega) (by simp; omega))
  have d0 : (c.st == 0) = false := beq_eq_false_iff_ne.2 (by omega)
  have d2 : (c.st == 2) = false := beq_eq_false_iff_ne.2 (by omega)
  have d3 : (c.st == 3) = true := beq_iff_eq.2 hst
  have d4 : (c.st == 4) = false := beq_eq_false_iff_ne.2 (by omega)
  have d1 : (c.st == 1) = false := beq_eq_false_iff_ne.2 (by omega)
  have d5 : (c.st == 5) = false := beq_eq_false_iff_ne.2 (by omega)
  have d6 : (c.st == 6) = false := beq_eq_false_iff_ne.2 (by omega)
  have d10 : (c.th != 0) = true := by simp; omega
  generalize rangeB c = br at *
  generalize sameB c Co0 = bs0 at *
  have HS := Lib.hid hs
  clear hs h1 hst h2
  go_enter Tryz.func44, Tryz.ntmps44
  go_wp2_with (first | (go_at_call 72; refine (HR.out _).mono ?_; rintro e w1 ⟨rfl, hbr⟩) | (go_at_call 49; refine (HSM.out _).mono ?_; rintro e w1 ⟨rfl, hbr⟩))
  go_ret
  refine ⟨ret_bool HS.out.symm, ?_⟩
  first | exact HB.out _ | exact btrans (HB.out _) hbr

set_option maxRecDepth 100000 in
set_option maxHeartbeats 1000000 in
theorem may_3_1 (c : Co) (A1 D1 : Option Addr) (c1 e1 : Nat) (B : Nat) (w : World) (h1 : CoR w B c A1 D1) (hB : B ≤ w.heap.size) (hst : c.st = 3) (h2 : c.th = 0) :
    Calls Tryz.prog 44 #[(.agg #[.int .i8 c.st, .int .i64 c.pid, .int .i64 c.ep, .int .i64 c.tm, .int .i64 c.th, .slice A1 c.ps.length c1, .slice D1 c.qs.length e1, .int .i64 c.ag])] w fun e w' => e = .returned (.bool (mayB c)) ∧ Below w.heap.size w w' := by
  have hs : mayB c = rangeB c := by
    unfold mayB
    rw [if_neg (by omega), if_neg (by omega), if_pos hst]
    simp only [tailB]
    generalize rangeB c = br
    generalize c.ps.length = n at *
    generalize c.qs.length = m at *
    cases br <;> simp <;> omega
  have HB := Lib.hid (fun x => bal (Below.refl w.heap.size w) x)
  have HR := Lib.hid (fun x => inRange_any c A1 D1 c1 e1 B (w.alloc x) (h1.below (((Below.refl w.heap.size w).alloc (Nat.le_refl _) x).mono hB)) (by simp; omega))
  have HSM := Lib.hid (fun x => Same_any c Co0 A1 D1 c1 e1 none none 0 0 B B (w.alloc x) (h1.below (((Below.refl w.heap.size w).alloc (Nat.le_refl _) x).mono hB)) (CoR.zero _ _ _ _) (by simp; omega) (by simp; omega))
  have d0 : (c.st == 0) = false := beq_eq_false_iff_ne.2 (by omega)
  have d2 : (c.st == 2) = false := beq_eq_false_iff_ne.2 (by omega)
  have d3 : (c.st == 3) = true := beq_iff_eq.2 hst
  have d4 : (c.st == 4) = false := beq_eq_false_iff_ne.2 (by omega)
  have d1 : (c.st == 1) = false := beq_eq_false_iff_ne.2 (by omega)
  have d5 : (c.st == 5) = false := beq_eq_false_iff_ne.2 (by omega)
  have d6 : (c.st == 6) = false := beq_eq_false_iff_ne.2 (by omega)
  have d10 : (c.th != 0) = false := by simp; omega
  have d11 : decide (c.th < 0) = false := by simp; omega
  have d12 : decide (20 < c.th) = false := by simp; omega
  have d13 : decide (0 < c.th) = false := by simp; omega
  generalize rangeB c = br at *
  generalize sameB c Co0 = bs0 at *
  have HS := Lib.hid hs
  clear hs h1 hst h2
  go_enter Tryz.func44, Tryz.ntmps44
  go_wp2_with (first | (go_at_call 72; refine (HR.out _).mono ?_; rintro e w1 ⟨rfl, hbr⟩) | (go_at_call 49; refine (HSM.out _).mono ?_; rintro e w1 ⟨rfl, hbr⟩))
  go_ret
  refine ⟨ret_bool HS.out.symm, ?_⟩
  first | exact HB.out _ | exact btrans (HB.out _) hbr

set_option maxRecDepth 100000 in
set_option maxHeartbeats 1000000 in
theorem may_4_0 (c : Co) (A1 D1 : Option Addr) (c1 e1 : Nat) (B : Nat) (w : World) (h1 : CoR w B c A1 D1) (hB : B ≤ w.heap.size) (hst : c.st = 4) (h2 : c.th < 0) :
    Calls Tryz.prog 44 #[(.agg #[.int .i8 c.st, .int .i64 c.pid, .int .i64 c.ep, .int .i64 c.tm, .int .i64 c.th, .slice A1 c.ps.length c1, .slice D1 c.qs.length e1, .int .i64 c.ag])] w fun e w' => e = .returned (.bool (mayB c)) ∧ Below w.heap.size w w' := by
  have hs : mayB c = false := by
    unfold mayB
    rw [if_neg (by omega), if_neg (by omega), if_neg (by omega), if_pos hst]
    simp only [tailB]
    generalize rangeB c = br
    generalize c.ps.length = n at *
    generalize c.qs.length = m at *
    cases br <;> simp <;> omega
  have HB := Lib.hid (fun x => bal (Below.refl w.heap.size w) x)
  have HR := Lib.hid (fun x => inRange_any c A1 D1 c1 e1 B (w.alloc x) (h1.below (((Below.refl w.heap.size w).alloc (Nat.le_refl _) x).mono hB)) (by simp; omega))
  have HSM := Lib.hid (fun x => Same_any c Co0 A1 D1 c1 e1 none none 0 0 B B (w.alloc x) (h1.below (((Below.refl w.heap.size w).alloc (Nat.le_refl _) x).mono hB)) (CoR.zero _ _ _ _) (by simp; omega) (by simp; omega))
  have d0 : (c.st == 0) = false := beq_eq_false_iff_ne.2 (by omega)
  have d2 : (c.st == 2) = false := beq_eq_false_iff_ne.2 (by omega)
  have d3 : (c.st == 3) = false := beq_eq_false_iff_ne.2 (by omega)
  have d4 : (c.st == 4) = true := beq_iff_eq.2 hst
  have d1 : (c.st == 1) = false := beq_eq_false_iff_ne.2 (by omega)
  have d5 : (c.st == 5) = false := beq_eq_false_iff_ne.2 (by omega)
  have d6 : (c.st == 6) = false := beq_eq_false_iff_ne.2 (by omega)
  have d10 : decide (c.th < 0) = true := by simp; omega
  generalize rangeB c = br at *
  generalize sameB c Co0 = bs0 at *
  have HS := Lib.hid hs
  clear hs h1 hst h2
  go_enter Tryz.func44, Tryz.ntmps44
  go_wp2_with (first | (go_at_call 72; refine (HR.out _).mono ?_; rintro e w1 ⟨rfl, hbr⟩) | (go_at_call 49; refine (HSM.out _).mono ?_; rintro e w1 ⟨rfl, hbr⟩))
  go_ret
  refine ⟨ret_bool HS.out.symm, ?_⟩
  first | exact HB.out _ | exact btrans (HB.out _) hbr

set_option maxRecDepth 100000 in
set_option maxHeartbeats 1000000 in
theorem may_4_1 (c : Co) (A1 D1 : Option Addr) (c1 e1 : Nat) (B : Nat) (w : World) (h1 : CoR w B c A1 D1) (hB : B ≤ w.heap.size) (hst : c.st = 4) (h2 : 20 < c.th) :
    Calls Tryz.prog 44 #[(.agg #[.int .i8 c.st, .int .i64 c.pid, .int .i64 c.ep, .int .i64 c.tm, .int .i64 c.th, .slice A1 c.ps.length c1, .slice D1 c.qs.length e1, .int .i64 c.ag])] w fun e w' => e = .returned (.bool (mayB c)) ∧ Below w.heap.size w w' := by
  have hs : mayB c = false := by
    unfold mayB
    rw [if_neg (by omega), if_neg (by omega), if_neg (by omega), if_pos hst]
    simp only [tailB]
    generalize rangeB c = br
    generalize c.ps.length = n at *
    generalize c.qs.length = m at *
    cases br <;> simp <;> omega
  have HB := Lib.hid (fun x => bal (Below.refl w.heap.size w) x)
  have HR := Lib.hid (fun x => inRange_any c A1 D1 c1 e1 B (w.alloc x) (h1.below (((Below.refl w.heap.size w).alloc (Nat.le_refl _) x).mono hB)) (by simp; omega))
  have HSM := Lib.hid (fun x => Same_any c Co0 A1 D1 c1 e1 none none 0 0 B B (w.alloc x) (h1.below (((Below.refl w.heap.size w).alloc (Nat.le_refl _) x).mono hB)) (CoR.zero _ _ _ _) (by simp; omega) (by simp; omega))
  have d0 : (c.st == 0) = false := beq_eq_false_iff_ne.2 (by omega)
  have d2 : (c.st == 2) = false := beq_eq_false_iff_ne.2 (by omega)
  have d3 : (c.st == 3) = false := beq_eq_false_iff_ne.2 (by omega)
  have d4 : (c.st == 4) = true := beq_iff_eq.2 hst
  have d1 : (c.st == 1) = false := beq_eq_false_iff_ne.2 (by omega)
  have d5 : (c.st == 5) = false := beq_eq_false_iff_ne.2 (by omega)
  have d6 : (c.st == 6) = false := beq_eq_false_iff_ne.2 (by omega)
  have d10 : decide (c.th < 0) = false := by simp; omega
  have d11 : decide (20 < c.th) = true := by simp; omega
  generalize rangeB c = br at *
  generalize sameB c Co0 = bs0 at *
  have HS := Lib.hid hs
  clear hs h1 hst h2
  go_enter Tryz.func44, Tryz.ntmps44
  go_wp2_with (first | (go_at_call 72; refine (HR.out _).mono ?_; rintro e w1 ⟨rfl, hbr⟩) | (go_at_call 49; refine (HSM.out _).mono ?_; rintro e w1 ⟨rfl, hbr⟩))
  go_ret
  refine ⟨ret_bool HS.out.symm, ?_⟩
  first | exact HB.out _ | exact btrans (HB.out _) hbr

set_option maxRecDepth 100000 in
set_option maxHeartbeats 1000000 in
theorem may_4_2 (c : Co) (A1 D1 : Option Addr) (c1 e1 : Nat) (B : Nat) (w : World) (h1 : CoR w B c A1 D1) (hB : B ≤ w.heap.size) (hst : c.st = 4) (h2 : 0 < c.th ∧ c.th ≤ 20) (h3 : 100 ≤ c.ep) :
    Calls Tryz.prog 44 #[(.agg #[.int .i8 c.st, .int .i64 c.pid, .int .i64 c.ep, .int .i64 c.tm, .int .i64 c.th, .slice A1 c.ps.length c1, .slice D1 c.qs.length e1, .int .i64 c.ag])] w fun e w' => e = .returned (.bool (mayB c)) ∧ Below w.heap.size w w' := by
  have hs : mayB c = false := by
    unfold mayB
    rw [if_neg (by omega), if_neg (by omega), if_neg (by omega), if_pos hst]
    simp only [tailB]
    generalize rangeB c = br
    generalize c.ps.length = n at *
    generalize c.qs.length = m at *
    cases br <;> simp <;> omega
  have HB := Lib.hid (fun x => bal (Below.refl w.heap.size w) x)
  have HR := Lib.hid (fun x => inRange_any c A1 D1 c1 e1 B (w.alloc x) (h1.below (((Below.refl w.heap.size w).alloc (Nat.le_refl _) x).mono hB)) (by simp; omega))
  have HSM := Lib.hid (fun x => Same_any c Co0 A1 D1 c1 e1 none none 0 0 B B (w.alloc x) (h1.below (((Below.refl w.heap.size w).alloc (Nat.le_refl _) x).mono hB)) (CoR.zero _ _ _ _) (by simp; omega) (by simp; omega))
  have d0 : (c.st == 0) = false := beq_eq_false_iff_ne.2 (by omega)
  have d2 : (c.st == 2) = false := beq_eq_false_iff_ne.2 (by omega)
  have d3 : (c.st == 3) = false := beq_eq_false_iff_ne.2 (by omega)
  have d4 : (c.st == 4) = true := beq_iff_eq.2 hst
  have d1 : (c.st == 1) = false := beq_eq_false_iff_ne.2 (by omega)
  have d5 : (c.st == 5) = false := beq_eq_false_iff_ne.2 (by omega)
  have d6 : (c.st == 6) = false := beq_eq_false_iff_ne.2 (by omega)
  have d10 : decide (c.th < 0) = false := by simp; omega
  have d11 : decide (20 < c.th) = false := by simp; omega
  have d12 : decide (0 < c.th) = true := by simp; omega
  have d13 : decide (100 ≤ c.ep) = true := by simp; omega
  generalize rangeB c = br at *
  generalize sameB c Co0 = bs0 at *
  have HS := Lib.hid hs
  clear hs h1 hst h2 h3
  go_enter Tryz.func44, Tryz.ntmps44
  go_wp2_with (first | (go_at_call 72; refine (HR.out _).mono ?_; rintro e w1 ⟨rfl, hbr⟩) | (go_at_call 49; refine (HSM.out _).mono ?_; rintro e w1 ⟨rfl, hbr⟩))
  go_ret
  refine ⟨ret_bool HS.out.symm, ?_⟩
  first | exact HB.out _ | exact btrans (HB.out _) hbr

set_option maxRecDepth 100000 in
set_option maxHeartbeats 1000000 in
theorem may_4_3 (c : Co) (A1 D1 : Option Addr) (c1 e1 : Nat) (B : Nat) (w : World) (h1 : CoR w B c A1 D1) (hB : B ≤ w.heap.size) (hst : c.st = 4) (h2 : 0 < c.th ∧ c.th ≤ 20) (h3 : c.ep < 100) :
    Calls Tryz.prog 44 #[(.agg #[.int .i8 c.st, .int .i64 c.pid, .int .i64 c.ep, .int .i64 c.tm, .int .i64 c.th, .slice A1 c.ps.length c1, .slice D1 c.qs.length e1, .int .i64 c.ag])] w fun e w' => e = .returned (.bool (mayB c)) ∧ Below w.heap.size w w' := by
  have hs : mayB c = rangeB c := by
    unfold mayB
    rw [if_neg (by omega), if_neg (by omega), if_neg (by omega), if_pos hst]
    simp only [tailB]
    generalize rangeB c = br
    generalize c.ps.length = n at *
    generalize c.qs.length = m at *
    cases br <;> simp <;> omega
  have HB := Lib.hid (fun x => bal (Below.refl w.heap.size w) x)
  have HR := Lib.hid (fun x => inRange_any c A1 D1 c1 e1 B (w.alloc x) (h1.below (((Below.refl w.heap.size w).alloc (Nat.le_refl _) x).mono hB)) (by simp; omega))
  have HSM := Lib.hid (fun x => Same_any c Co0 A1 D1 c1 e1 none none 0 0 B B (w.alloc x) (h1.below (((Below.refl w.heap.size w).alloc (Nat.le_refl _) x).mono hB)) (CoR.zero _ _ _ _) (by simp; omega) (by simp; omega))
  have d0 : (c.st == 0) = false := beq_eq_false_iff_ne.2 (by omega)
  have d2 : (c.st == 2) = false := beq_eq_false_iff_ne.2 (by omega)
  have d3 : (c.st == 3) = false := beq_eq_false_iff_ne.2 (by omega)
  have d4 : (c.st == 4) = true := beq_iff_eq.2 hst
  have d1 : (c.st == 1) = false := beq_eq_false_iff_ne.2 (by omega)
  have d5 : (c.st == 5) = false := beq_eq_false_iff_ne.2 (by omega)
  have d6 : (c.st == 6) = false := beq_eq_false_iff_ne.2 (by omega)
  have d10 : decide (c.th < 0) = false := by simp; omega
  have d11 : decide (20 < c.th) = false := by simp; omega
  have d12 : decide (0 < c.th) = true := by simp; omega
  have d13 : decide (100 ≤ c.ep) = false := by simp; omega
  generalize rangeB c = br at *
  generalize sameB c Co0 = bs0 at *
  have HS := Lib.hid hs
  clear hs h1 hst h2 h3
  go_enter Tryz.func44, Tryz.ntmps44
  go_wp2_with (first | (go_at_call 72; refine (HR.out _).mono ?_; rintro e w1 ⟨rfl, hbr⟩) | (go_at_call 49; refine (HSM.out _).mono ?_; rintro e w1 ⟨rfl, hbr⟩))
  go_ret
  refine ⟨ret_bool HS.out.symm, ?_⟩
  first | exact HB.out _ | exact btrans (HB.out _) hbr

set_option maxRecDepth 100000 in
set_option maxHeartbeats 1000000 in
theorem may_4_4 (c : Co) (A1 D1 : Option Addr) (c1 e1 : Nat) (B : Nat) (w : World) (h1 : CoR w B c A1 D1) (hB : B ≤ w.heap.size) (hst : c.st = 4) (h2 : c.th = 0) :
    Calls Tryz.prog 44 #[(.agg #[.int .i8 c.st, .int .i64 c.pid, .int .i64 c.ep, .int .i64 c.tm, .int .i64 c.th, .slice A1 c.ps.length c1, .slice D1 c.qs.length e1, .int .i64 c.ag])] w fun e w' => e = .returned (.bool (mayB c)) ∧ Below w.heap.size w w' := by
  have hs : mayB c = rangeB c := by
    unfold mayB
    rw [if_neg (by omega), if_neg (by omega), if_neg (by omega), if_pos hst]
    simp only [tailB]
    generalize rangeB c = br
    generalize c.ps.length = n at *
    generalize c.qs.length = m at *
    cases br <;> simp <;> omega
  have HB := Lib.hid (fun x => bal (Below.refl w.heap.size w) x)
  have HR := Lib.hid (fun x => inRange_any c A1 D1 c1 e1 B (w.alloc x) (h1.below (((Below.refl w.heap.size w).alloc (Nat.le_refl _) x).mono hB)) (by simp; omega))
  have HSM := Lib.hid (fun x => Same_any c Co0 A1 D1 c1 e1 none none 0 0 B B (w.alloc x) (h1.below (((Below.refl w.heap.size w).alloc (Nat.le_refl _) x).mono hB)) (CoR.zero _ _ _ _) (by simp; omega) (by simp; omega))
  have d0 : (c.st == 0) = false := beq_eq_false_iff_ne.2 (by omega)
  have d2 : (c.st == 2) = false := beq_eq_false_iff_ne.2 (by omega)
  have d3 : (c.st == 3) = false := beq_eq_false_iff_ne.2 (by omega)
  have d4 : (c.st == 4) = true := beq_iff_eq.2 hst
  have d1 : (c.st == 1) = false := beq_eq_false_iff_ne.2 (by omega)
  have d5 : (c.st == 5) = false := beq_eq_false_iff_ne.2 (by omega)
  have d6 : (c.st == 6) = false := beq_eq_false_iff_ne.2 (by omega)
  have d10 : decide (c.th < 0) = false := by simp; omega
  have d11 : decide (20 < c.th) = false := by simp; omega
  have d12 : decide (0 < c.th) = false := by simp; omega
  generalize rangeB c = br at *
  generalize sameB c Co0 = bs0 at *
  have HS := Lib.hid hs
  clear hs h1 hst h2
  go_enter Tryz.func44, Tryz.ntmps44
  go_wp2_with (first | (go_at_call 72; refine (HR.out _).mono ?_; rintro e w1 ⟨rfl, hbr⟩) | (go_at_call 49; refine (HSM.out _).mono ?_; rintro e w1 ⟨rfl, hbr⟩))
  go_ret
  refine ⟨ret_bool HS.out.symm, ?_⟩
  first | exact HB.out _ | exact btrans (HB.out _) hbr

set_option maxRecDepth 100000 in
set_option maxHeartbeats 1000000 in
theorem may_1_0 (c : Co) (A1 D1 : Option Addr) (c1 e1 : Nat) (B : Nat) (w : World) (h1 : CoR w B c A1 D1) (hB : B ≤ w.heap.size) (hst : c.st = 1) (h2 : c.th < 0 ∨ 0 < c.th) :
    Calls Tryz.prog 44 #[(.agg #[.int .i8 c.st, .int .i64 c.pid, .int .i64 c.ep, .int .i64 c.tm, .int .i64 c.th, .slice A1 c.ps.length c1, .slice D1 c.qs.length e1, .int .i64 c.ag])] w fun e w' => e = .returned (.bool (mayB c)) ∧ Below w.heap.size w w' := by
  have hs : mayB c = false := by
    unfold mayB
    rw [if_neg (by omega), if_neg (by omega), if_neg (by omega), if_neg (by omega), if_pos (by omega)]
    simp only [idleB]
    generalize rangeB c = br
    generalize c.ps.length = n at *
    generalize c.qs.length = m at *
    cases br <;> simp <;> omega
  have HB := Lib.hid (fun x => bal (Below.refl w.heap.size w) x)
  have HR := Lib.hid (fun x => inRange_any c A1 D1 c1 e1 B (w.alloc x) (h1.below (((Below.refl w.heap.size w).alloc (Nat.le_refl _) x).mono hB)) (by simp; omega))
  have HSM := Lib.hid (fun x => Same_any c Co0 A1 D1 c1 e1 none none 0 0 B B (w.alloc x) (h1.below (((Below.refl w.heap.size w).alloc (Nat.le_refl _) x).mono hB)) (CoR.zero _ _ _ _) (by simp; omega) (by simp; omega))
  have d0 : (c.st == 0) = false := beq_eq_false_iff_ne.2 (by omega)
  have d2 : (c.st == 2) = false := beq_eq_false_iff_ne.2 (by omega)
  have d3 : (c.st == 3) = false := beq_eq_false_iff_ne.2 (by omega)
  have d4 : (c.st == 4) = false := beq_eq_false_iff_ne.2 (by omega)
  have d1 : (c.st == 1) = true := beq_iff_eq.2 hst
  have d5 : (c.st == 5) = false := beq_eq_false_iff_ne.2 (by omega)
  have d6 : (c.st == 6) = false := beq_eq_false_iff_ne.2 (by omega)
  have d10 : (c.th == 0) = false := beq_eq_false_iff_ne.2 (by omega)
  generalize rangeB c = br at *
  generalize sameB c Co0 = bs0 at *
  have HS := Lib.hid hs
  clear hs h1 hst h2
  go_enter Tryz.func44, Tryz.ntmps44
  go_wp2_with (first | (go_at_call 72; refine (HR.out _).mono ?_; rintro e w1 ⟨rfl, hbr⟩) | (go_at_call 49; refine (HSM.out _).mono ?_; rintro e w1 ⟨rfl, hbr⟩))
  go_ret
  refine ⟨ret_bool HS.out.symm, ?_⟩
  first | exact HB.out _ | exact btrans (HB.out _) hbr

set_option maxRecDepth 100000 in
set_option maxHeartbeats 1000000 in
theorem may_1_1 (c : Co) (A1 D1 : Option Addr) (c1 e1 : Nat) (B : Nat) (w : World) (h1 : CoR w B c A1 D1) (hB : B ≤ w.heap.size) (hst : c.st = 1) (h2 : c.th = 0) (h3 : c.ag < 0 ∨ 0 < c.ag) :
    Calls Tryz.prog 44 #[(.agg #[.int .i8 c.st, .int .i64 c.pid, .int .i64 c.ep, .int .i64 c.tm, .int .i64 c.th, .slice A1 c.ps.length c1, .slice D1 c.qs.length e1, .int .i64 c.ag])] w fun e w' => e = .returned (.bool (mayB c)) ∧ Below w.heap.size w w' := by
  have hs : mayB c = false := by
    unfold mayB
    rw [if_neg (by omega), if_neg (by omega), if_neg (by omega), if_neg (by omega), if_pos (by omega)]
    simp only [idleB]
    generalize rangeB c = br
    generalize c.ps.length = n at *
    generalize c.qs.length = m at *
    cases br <;> simp <;> omega
  have HB := Lib.hid (fun x => bal (Below.refl w.heap.size w) x)
  have HR := Lib.hid (fun x => inRange_any c A1 D1 c1 e1 B (w.alloc x) (h1.below (((Below.refl w.heap.size w).alloc (Nat.le_refl _) x).mono hB)) (by simp; omega))
  have HSM := Lib.hid (fun x => Same_any c Co0 A1 D1 c1 e1 none none 0 0 B B (w.alloc x) (h1.below (((Below.refl w.heap.size w).alloc (Nat.le_refl _) x).mono hB)) (CoR.zero _ _ _ _) (by simp; omega) (by simp; omega))
  have d0 : (c.st == 0) = false := beq_eq_false_iff_ne.2 (by omega)
  have d2 : (c.st == 2) = false := beq_eq_false_iff_ne.2 (by omega)
  have d3 : (c.st == 3) = false := beq_eq_false_iff_ne.2 (by omega)
  have d4 : (c.st == 4) = false := beq_eq_false_iff_ne.2 (by omega)
  have d1 : (c.st == 1) = true := beq_iff_eq.2 hst
  have d5 : (c.st == 5) = false := beq_eq_false_iff_ne.2 (by omega)
  have d6 : (c.st == 6) = false := beq_eq_false_iff_ne.2 (by omega)
  have d10 : (c.th == 0) = true := beq_iff_eq.2 (by omega)
  have d11 : (c.ag == 0) = false := beq_eq_false_iff_ne.2 (by omega)
  generalize rangeB c = br at *
  generalize sameB c Co0 = bs0 at *
  have HS := Lib.hid hs
  clear hs h1 hst h2 h3
  go_enter Tryz.func44, Tryz.ntmps44
  go_wp2_with (first | (go_at_call 72; refine (HR.out _).mono ?_; rintro e w1 ⟨rfl, hbr⟩) | (go_at_call 49; refine (HSM.out _).mono ?_; rintro e w1 ⟨rfl, hbr⟩))
  go_ret
  refine ⟨ret_bool HS.out.symm, ?_⟩
  first | exact HB.out _ | exact btrans (HB.out _) hbr

set_option maxRecDepth 100000 in
set_option maxHeartbeats 1000000 in
theorem may_1_2 (c : Co) (A1 D1 : Option Addr) (c1 e1 : Nat) (B : Nat) (w : World) (h1 : CoR w B c A1 D1) (hB : B ≤ w.heap.size) (hst : c.st = 1) (h2 : c.th = 0) (h3 : c.ag = 0) (h4 : 0 < c.ps.length) :
    Calls Tryz.prog 44 #[(.agg #[.int .i8 c.st, .int .i64 c.pid, .int .i64 c.ep, .int .i64 c.tm, .int .i64 c.th, .slice A1 c.ps.length c1, .slice D1 c.qs.length e1, .int .i64 c.ag])] w fun e w' => e = .returned (.bool (mayB c)) ∧ Below w.heap.size w w' := by
  have hs : mayB c = false := by
    unfold mayB
    rw [if_neg (by omega), if_neg (by omega), if_neg (by omega), if_neg (by omega), if_pos (by omega)]
    simp only [idleB]
    generalize rangeB c = br
    generalize c.ps.length = n at *
    generalize c.qs.length = m at *
    cases br <;> simp <;> omega
  have HB := Lib.hid (fun x => bal (Below.refl w.heap.size w) x)
  have HR := Lib.hid (fun x => inRange_any c A1 D1 c1 e1 B (w.alloc x) (h1.below (((Below.refl w.heap.size w).alloc (Nat.le_refl _) x).mono hB)) (by simp; omega))
  have HSM := Lib.hid (fun x => Same_any c Co0 A1 D1 c1 e1 none none 0 0 B B (w.alloc x) (h1.below (((Below.refl w.heap.size w).alloc (Nat.le_refl _) x).mono hB)) (CoR.zero _ _ _ _) (by simp; omega) (by simp; omega))
  have d0 : (c.st == 0) = false := beq_eq_false_iff_ne.2 (by omega)
  have d2 : (c.st == 2) = false := beq_eq_false_iff_ne.2 (by omega)
  have d3 : (c.st == 3) = false := beq_eq_false_iff_ne.2 (by omega)
  have d4 : (c.st == 4) = false := beq_eq_false_iff_ne.2 (by omega)
  have d1 : (c.st == 1) = true := beq_iff_eq.2 hst
  have d5 : (c.st == 5) = false := beq_eq_false_iff_ne.2 (by omega)
  have d6 : (c.st == 6) = false := beq_eq_false_iff_ne.2 (by omega)
  have d10 : (c.th == 0) = true := beq_iff_eq.2 (by omega)
  have d11 : (c.ag == 0) = true := beq_iff_eq.2 (by omega)
  have d12 : ((c.ps.length : Int) == 0) = false := beq_eq_false_iff_ne.2 (by omega)
  generalize rangeB c = br at *
  generalize sameB c Co0 = bs0 at *
  have HS := Lib.hid hs
  clear hs h1 hst h2 h3 h4
  go_enter Tryz.func44, Tryz.ntmps44
  go_wp2_with (first | (go_at_call 72; refine (HR.out _).mono ?_; rintro e w1 ⟨rfl, hbr⟩) | (go_at_call 49; refine (HSM.out _).mono ?_; rintro e w1 ⟨rfl, hbr⟩))
  go_ret
  refine ⟨ret_bool HS.out.symm, ?_⟩
  first | exact HB.out _ | exact btrans (HB.out _) hbr

set_option maxRecDepth 100000 in
set_option maxHeartbeats 1000000 in
theorem may_1_3 (c : Co) (A1 D1 : Option Addr) (c1 e1 : Nat) (B : Nat) (w : World) (h1 : CoR w B c A1 D1) (hB : B ≤ w.heap.size) (hst : c.st = 1) (h2 : c.th = 0) (h3 : c.ag = 0) (h4 : c.ps.length = 0) (h5 : 0 < c.qs.length) :
    Calls Tryz.prog 44 #[(.agg #[.int .i8 c.st, .int .i64 c.pid, .int .i64 c.ep, .int .i64 c.tm, .int .i64 c.th, .slice A1 c.ps.length c1, .slice D1 c.qs.length e1, .int .i64 c.ag])] w fun e w' => e = .returned (.bool (mayB c)) ∧ Below w.heap.size w w' := by
  have hs : mayB c = false := by
    unfold mayB
    rw [if_neg (by omega), if_neg (by omega), if_neg (by omega), if_neg (by omega), if_pos (by omega)]
    simp only [idleB]
    generalize rangeB c = br
    generalize c.ps.length = n at *
    generalize c.qs.length = m at *
    cases br <;> simp <;> omega
  have HB := Lib.hid (fun x => bal (Below.refl w.heap.size w) x)
  have HR := Lib.hid (fun x => inRange_any c A1 D1 c1 e1 B (w.alloc x) (h1.below (((Below.refl w.heap.size w).alloc (Nat.le_refl _) x).mono hB)) (by simp; omega))
  have HSM := Lib.hid (fun x => Same_any c Co0 A1 D1 c1 e1 none none 0 0 B B (w.alloc x) (h1.below (((Below.refl w.heap.size w).alloc (Nat.le_refl _) x).mono hB)) (CoR.zero _ _ _ _) (by simp; omega) (by simp; omega))
  have d0 : (c.st == 0) = false := beq_eq_false_iff_ne.2 (by omega)
  have d2 : (c.st == 2) = false := beq_eq_false_iff_ne.2 (by omega)
  have d3 : (c.st == 3) = false := beq_eq_false_iff_ne.2 (by omega)
  have d4 : (c.st == 4) = false := beq_eq_false_iff_ne.2 (by omega)
  have d1 : (c.st == 1) = true := beq_iff_eq.2 hst
  have d5 : (c.st == 5) = false := beq_eq_false_iff_ne.2 (by omega)
  have d6 : (c.st == 6) = false := beq_eq_false_iff_ne.2 (by omega)
  have d10 : (c.th == 0) = true := beq_iff_eq.2 (by omega)
  have d11 : (c.ag == 0) = true := beq_iff_eq.2 (by omega)
  have d12 : ((c.ps.length : Int) == 0) = true := beq_iff_eq.2 (by omega)
  have d13 : ((c.qs.length : Int) == 0) = false := beq_eq_false_iff_ne.2 (by omega)
  generalize rangeB c = br at *
  generalize sameB c Co0 = bs0 at *
  have HS := Lib.hid hs
  clear hs h1 hst h2 h3 h4 h5
  go_enter Tryz.func44, Tryz.ntmps44
  go_wp2_with (first | (go_at_call 72; refine (HR.out _).mono ?_; rintro e w1 ⟨rfl, hbr⟩) | (go_at_call 49; refine (HSM.out _).mono ?_; rintro e w1 ⟨rfl, hbr⟩))
  go_ret
  refine ⟨ret_bool HS.out.symm, ?_⟩
  first | exact HB.out _ | exact btrans (HB.out _) hbr

set_option maxRecDepth 100000 in
set_option maxHeartbeats 1000000 in
theorem may_1_4 (c : Co) (A1 D1 : Option Addr) (c1 e1 : Nat) (B : Nat) (w : World) (h1 : CoR w B c A1 D1) (hB : B ≤ w.heap.size) (hst : c.st = 1) (h2 : c.th = 0) (h3 : c.ag = 0) (h4 : c.ps.length = 0) (h5 : c.qs.length = 0) :
    Calls Tryz.prog 44 #[(.agg #[.int .i8 c.st, .int .i64 c.pid, .int .i64 c.ep, .int .i64 c.tm, .int .i64 c.th, .slice A1 c.ps.length c1, .slice D1 c.qs.length e1, .int .i64 c.ag])] w fun e w' => e = .returned (.bool (mayB c)) ∧ Below w.heap.size w w' := by
  have hs : mayB c = rangeB c := by
    unfold mayB
    rw [if_neg (by omega), if_neg (by omega), if_neg (by omega), if_neg (by omega), if_pos (by omega)]
    simp only [idleB]
    generalize rangeB c = br
    generalize c.ps.length = n at *
    generalize c.qs.length = m at *
    cases br <;> simp <;> omega
  have HB := Lib.hid (fun x => bal (Below.refl w.heap.size w) x)
  have HR := Lib.hid (fun x => inRange_any c A1 D1 c1 e1 B (w.alloc x) (h1.below (((Below.refl w.heap.size w).alloc (Nat.le_refl _) x).mono hB)) (by simp; omega))
  have HSM := Lib.hid (fun x => Same_any c Co0 A1 D1 c1 e1 none none 0 0 B B (w.alloc x) (h1.below (((Below.refl w.heap.size w).alloc (Nat.le_refl _) x).mono hB)) (CoR.zero _ _ _ _) (by simp; omega) (by simp; omega))
  have d0 : (c.st == 0) = false := beq_eq_false_iff_ne.2 (by omega)
  have d2 : (c.st == 2) = false := beq_eq_false_iff_ne.2 (by omega)
  have d3 : (c.st == 3) = false := beq_eq_false_iff_ne.2 (by omega)
  have d4 : (c.st == 4) = false := beq_eq_false_iff_ne.2 (by omega)
  have d1 : (c.st == 1) = true := beq_iff_eq.2 hst
  have d5 : (c.st == 5) = false := beq_eq_false_iff_ne.2 (by omega)
  have d6 : (c.st == 6) = false := beq_eq_false_iff_ne.2 (by omega)
  have d10 : (c.th == 0) = true := beq_iff_eq.2 (by omega)
  have d11 : (c.ag == 0) = true := beq_iff_eq.2 (by omega)
  have d12 : ((c.ps.length : Int) == 0) = true := beq_iff_eq.2 (by omega)
  have d13 : ((c.qs.length : Int) == 0) = true := beq_iff_eq.2 (by omega)
  generalize rangeB c = br at *
  generalize sameB c Co0 = bs0 at *
  have HS := Lib.hid hs
  clear hs h1 hst h2 h3 h4 h5
  go_enter Tryz.func44, Tryz.ntmps44
  go_wp2_with (first | (go_at_call 72; refine (HR.out _).mono ?_; rintro e w1 ⟨rfl, hbr⟩) | (go_at_call 49; refine (HSM.out _).mono ?_; rintro e w1 ⟨rfl, hbr⟩))
  go_ret
  refine ⟨ret_bool HS.out.symm, ?_⟩
  first | exact HB.out _ | exact btrans (HB.out _) hbr

set_option maxRecDepth 100000 in
set_option maxHeartbeats 1000000 in
theorem may_5_0 (c : Co) (A1 D1 : Option Addr) (c1 e1 : Nat) (B : Nat) (w : World) (h1 : CoR w B c A1 D1) (hB : B ≤ w.heap.size) (hst : c.st = 5) (h2 : c.th < 0 ∨ 0 < c.th) :
    Calls Tryz.prog 44 #[(.agg #[.int .i8 c.st, .int .i64 c.pid, .int .i64 c.ep, .int .i64 c.tm, .int .i64 c.th, .slice A1 c.ps.length c1, .slice D1 c.qs.length e1, .int .i64 c.ag])] w fun e w' => e = .returned (.bool (mayB c)) ∧ Below w.heap.size w w' := by
  have hs : mayB c = false := by
    unfold mayB
    rw [if_neg (by omega), if_neg (by omega), if_neg (by omega), if_neg (by omega), if_pos (by omega)]
    simp only [idleB]
    generalize rangeB c = br
    generalize c.ps.length = n at *
    generalize c.qs.length = m at *
    cases br <;> simp <;> omega
  have HB := Lib.hid (fun x => bal (Below.refl w.heap.size w) x)
  have HR := Lib.hid (fun x => inRange_any c A1 D1 c1 e1 B (w.alloc x) (h1.below (((Below.refl w.heap.size w).alloc (Nat.le_refl _) x).mono hB)) (by simp; omega))
  have HSM := Lib.hid (fun x => Same_any c Co0 A1 D1 c1 e1 none none 0 0 B B (w.alloc x) (h1.below (((Below.refl w.heap.size w).alloc (Nat.le_refl _) x).mono hB)) (CoR.zero _ _ _ _) (by simp; omega) (by simp; omega))
  have d0 : (c.st == 0) = false := beq_eq_false_iff_ne.2 (by omega)
  have d2 : (c.st == 2) = false := beq_eq_false_iff_ne.2 (by omega)
  have d3 : (c.st == 3) = false := beq_eq_false_iff_ne.2 (by omega)
  have d4 : (c.st == 4) = false := beq_eq_false_iff_ne.2 (by omega)
  have d1 : (c.st == 1) = false := beq_eq_false_iff_ne.2 (by omega)
  have d5 : (c.st == 5) = true := beq_iff_eq.2 hst
  have d6 : (c.st == 6) = false := beq_eq_false_iff_ne.2 (by omega)
  have d10 : (c.th == 0) = false := beq_eq_false_iff_ne.2 (by omega)
  generalize rangeB c = br at *
  generalize sameB c Co0 = bs0 at *
  have HS := Lib.hid hs
  clear hs h1 hst h2
  go_enter Tryz.func44, Tryz.ntmps44
  go_wp2_with (first | (go_at_call 72; refine (HR.out _).mono ?_; rintro e w1 ⟨rfl, hbr⟩) | (go_at_call 49; refine (HSM.out _).mono ?_; rintro e w1 ⟨rfl, hbr⟩))
  go_ret
  refine ⟨ret_bool HS.out.symm, ?_⟩
  first | exact HB.out _ | exact btrans (HB.out _) hbr

set_option maxRecDepth 100000 in
set_option maxHeartbeats 1000000 in
theorem may_5_1 (c : Co) (A1 D1 : Option Addr) (c1 e1 : Nat) (B : Nat) (w : World) (h1 : CoR w B c A1 D1) (hB : B ≤ w.heap.size) (hst : c.st = 5) (h2 : c.th = 0) (h3 : c.ag < 0 ∨ 0 < c.ag) :
    Calls Tryz.prog 44 #[(.agg #[.int .i8 c.st, .int .i64 c.pid, .int .i64 c.ep, .int .i64 c.tm, .int .i64 c.th, .slice A1 c.ps.length c1, .slice D1 c.qs.length e1, .int .i64 c.ag])] w fun e w' => e = .returned (.bool (mayB c)) ∧ Below w.heap.size w w' := by
  have hs : mayB c = false := by
    unfold mayB
    rw [if_neg (by omega), if_neg (by omega), if_neg (by omega), if_neg (by omega), if_pos (by omega)]
    simp only [idleB]
    generalize rangeB c = br
    generalize c.ps.length = n at *
    generalize c.qs.length = m at *
    cases br <;> simp <;> omega
  have HB := Lib.hid (fun x => bal (Below.refl w.heap.size w) x)
  have HR := Lib.hid (fun x => inRange_any c A1 D1 c1 e1 B (w.alloc x) (h1.below (((Below.refl w.heap.size w).alloc (Nat.le_refl _) x).mono hB)) (by simp; omega))
  have HSM := Lib.hid (fun x => Same_any c Co0 A1 D1 c1 e1 none none 0 0 B B (w.alloc x) (h1.below (((Below.refl w.heap.size w).alloc (Nat.le_refl _) x).mono hB)) (CoR.zero _ _ _ _) (by simp; omega) (by simp; omega))
  have d0 : (c.st == 0) = false := beq_eq_false_iff_ne.2 (by omega)
  have d2 : (c.st == 2) = false := beq_eq_false_iff_ne.2 (by omega)
  have d3 : (c.st == 3) = false := beq_eq_false_iff_ne.2 (by omega)
  have d4 : (c.st == 4) = false := beq_eq_false_iff_ne.2 (by omega)
  have d1 : (c.st == 1) = false := beq_eq_false_iff_ne.2 (by omega)
  have d5 : (c.st == 5) = true := beq_iff_eq.2 hst
  have d6 : (c.st == 6) = false := beq_eq_false_iff_ne.2 (by omega)
  have d10 : (c.th == 0) = true := beq_iff_eq.2 (by omega)
  have d11 : (c.ag == 0) = false := beq_eq_false_iff_ne.2 (by omega)
  generalize rangeB c = br at *
  generalize sameB c Co0 = bs0 at *
  have HS := Lib.hid hs
  clear hs h1 hst h2 h3
  go_enter Tryz.func44, Tryz.ntmps44
  go_wp2_with (first | (go_at_call 72; refine (HR.out _).mono ?_; rintro e w1 ⟨rfl, hbr⟩) | (go_at_call 49; refine (HSM.out _).mono ?_; rintro e w1 ⟨rfl, hbr⟩))
  go_ret
  refine ⟨ret_bool HS.out.symm, ?_⟩
  first | exact HB.out _ | exact btrans (HB.out _) hbr

set_option maxRecDepth 100000 in
set_option maxHeartbeats 1000000 in
theorem may_5_2 (c : Co) (A1 D1 : Option Addr) (c1 e1 : Nat) (B : Nat) (w : World) (h1 : CoR w B c A1 D1) (hB : B ≤ w.heap.size) (hst : c.st = 5) (h2 : c.th = 0) (h3 : c.ag = 0) (h4 : 0 < c.ps.length) :
    Calls Tryz.prog 44 #[(.agg #[.int .i8 c.st, .int .i64 c.pid, .int .i64 c.ep, .int .i64 c.tm, .int .i64 c.th, .slice A1 c.ps.length c1, .slice D1 c.qs.length e1, .int .i64 c.ag])] w fun e w' => e = .returned (.bool (mayB c)) ∧ Below w.heap.size w w' := by
  have hs : mayB c = false := by
    unfold mayB
    rw [if_neg (by omega), if_neg (by omega), if_neg (by omega), if_neg (by omega), if_pos (by omega)]
    simp only [idleB]
    generalize rangeB c = br
    generalize c.ps.length = n at *
    generalize c.qs.length = m at *
    cases br <;> simp <;> omega
  have HB := Lib.hid (fun x => bal (Below.refl w.heap.size w) x)
  have HR := Lib.hid (fun x => inRange_any c A1 D1 c1 e1 B (w.alloc x) (h1.below (((Below.refl w.heap.size w).alloc (Nat.le_refl _) x).mono hB)) (by simp; omega))
  have HSM := Lib.hid (fun x => Same_any c Co0 A1 D1 c1 e1 none none 0 0 B B (w.alloc x) (h1.below (((Below.refl w.heap.size w).alloc (Nat.le_refl _) x).mono hB)) (CoR.zero _ _ _ _) (by simp; omega) (by simp; omega))
  have d0 : (c.st == 0) = false := beq_eq_false_iff_ne.2 (by omega)
  have d2 : (c.st == 2) = false := beq_eq_false_iff_ne.2 (by omega)
  have d3 : (c.st == 3) = false := beq_eq_false_iff_ne.2 (by omega)
  have d4 : (c.st == 4) = false := beq_eq_false_iff_ne.2 (by omega)
  have d1 : (c.st == 1) = false := beq_eq_false_iff_ne.2 (by omega)
  have d5 : (c.st == 5) = true := beq_iff_eq.2 hst
  have d6 : (c.st == 6) = false := beq_eq_false_iff_ne.2 (by omega)
  have d10 : (c.th == 0) = true := beq_iff_eq.2 (by omega)
  have d11 : (c.ag == 0) = true := beq_iff_eq.2 (by omega)
  have d12 : ((c.ps.length : Int) == 0) = false := beq_eq_false_iff_ne.2 (by omega)
  generalize rangeB c = br at *
  generalize sameB c Co0 = bs0 at *
  have HS := Lib.hid hs
  clear hs h1 hst h2 h3 h4
  go_enter Tryz.func44, Tryz.ntmps44
  go_wp2_with (first | (go_at_call 72; refine (HR.out _).mono ?_; rintro e w1 ⟨rfl, hbr⟩) | (go_at_call 49; refine (HSM.out _).mono ?_; rintro e w1 ⟨rfl, hbr⟩))
  go_ret
  refine ⟨ret_bool HS.out.symm, ?_⟩
  first | exact HB.out _ | exact btrans (HB.out _) hbr

set_option maxRecDepth 100000 in
set_option maxHeartbeats 1000000 in
theorem may_5_3 (c : Co) (A1 D1 : Option Addr) (c1 e1 : Nat) (B : Nat) (w : World) (h1 : CoR w B c A1 D1) (hB : B ≤ w.heap.size) (hst : c.st = 5) (h2 : c.th = 0) (h3 : c.ag = 0) (h4 : c.ps.length = 0) (h5 : 0 < c.qs.length) :
    Calls Tryz.prog 44 #[(.agg #[.int .i8 c.st, .int .i64 c.pid, .int .i64 c.ep, .int .i64 c.tm, .int .i64 c.th, .slice A1 c.ps.length c1, .slice D1 c.qs.length e1, .int .i64 c.ag])] w fun e w' => e = .returned (.bool (mayB c)) ∧ Below w.heap.size w w' := by
  have hs : mayB c = false := by
    unfold mayB
    rw [if_neg (by omega), if_neg (by omega), if_neg (by omega), if_neg (by omega), if_pos (by omega)]
    simp only [idleB]
    generalize rangeB c = br
    generalize c.ps.length = n at *
    generalize c.qs.length = m at *
    cases br <;> simp <;> omega
  have HB := Lib.hid (fun x => bal (Below.refl w.heap.size w) x)
  have HR := Lib.hid (fun x => inRange_any c A1 D1 c1 e1 B (w.alloc x) (h1.below (((Below.refl w.heap.size w).alloc (Nat.le_refl _) x).mono hB)) (by simp; omega))
  have HSM := Lib.hid (fun x => Same_any c Co0 A1 D1 c1 e1 none none 0 0 B B (w.alloc x) (h1.below (((Below.refl w.heap.size w).alloc (Nat.le_refl _) x).mono hB)) (CoR.zero _ _ _ _) (by simp; omega) (by simp; omega))
  have d0 : (c.st == 0) = false := beq_eq_false_iff_ne.2 (by omega)
  have d2 : (c.st == 2) = false := beq_eq_false_iff_ne.2 (by omega)
  have d3 : (c.st == 3) = false := beq_eq_false_iff_ne.2 (by omega)
  have d4 : (c.st == 4) = false := beq_eq_false_iff_ne.2 (by omega)
  have d1 : (c.st == 1) = false := beq_eq_false_iff_ne.2 (by omega)
  have d5 : (c.st == 5) = true := beq_iff_eq.2 hst
  have d6 : (c.st == 6) = false := beq_eq_false_iff_ne.2 (by omega)
  have d10 : (c.th == 0) = true := beq_iff_eq.2 (by omega)
  have d11 : (c.ag == 0) = true := beq_iff_eq.2 (by omega)
  have d12 : ((c.ps.length : Int) == 0) = true := beq_iff_eq.2 (by omega)
  have d13 : ((c.qs.length : Int) == 0) = false := beq_eq_false_iff_ne.2 (by omega)
  generalize rangeB c = br at *
  generalize sameB c Co0 = bs0 at *
  have HS := Lib.hid hs
  clear hs h1 hst h2 h3 h4 h5
  go_enter Tryz.func44, Tryz.ntmps44
  go_wp2_with (first | (go_at_call 72; refine (HR.out _).mono ?_; rintro e w1 ⟨rfl, hbr⟩) | (go_at_call 49; refine (HSM.out _).mono ?_; rintro e w1 ⟨rfl, hbr⟩))
  go_ret
  refine ⟨ret_bool HS.out.symm, ?_⟩
  first | exact HB.out _ | exact btrans (HB.out _) hbr

set_option maxRecDepth 100000 in
set_option maxHeartbeats 1000000 in
theorem may_5_4 (c : Co) (A1 D1 : Option Addr) (c1 e1 : Nat) (B : Nat) (w : World) (h1 : CoR w B c A1 D1) (hB : B ≤ w.heap.size) (hst : c.st = 5) (h2 : c.th = 0) (h3 : c.ag = 0) (h4 : c.ps.length = 0) (h5 : c.qs.length = 0) :
    Calls Tryz.prog 44 #[(.agg #[.int .i8 c.st, .int .i64 c.pid, .int .i64 c.ep, .int .i64 c.tm, .int .i64 c.th, .slice A1 c.ps.length c1, .slice D1 c.qs.length e1, .int .i64 c.ag])] w fun e w' => e = .returned (.bool (mayB c)) ∧ Below w.heap.size w w' := by
  have hs : mayB c = rangeB c := by
    unfold mayB
    rw [if_neg (by omega), if_neg (by omega), if_neg (by omega), if_neg (by omega), if_pos (by omega)]
    simp only [idleB]
    generalize rangeB c = br
    generalize c.ps.length = n at *
    generalize c.qs.length = m at *
    cases br <;> simp <;> omega
  have HB := Lib.hid (fun x => bal (Below.refl w.heap.size w) x)
  have HR := Lib.hid (fun x => inRange_any c A1 D1 c1 e1 B (w.alloc x) (h1.below (((Below.refl w.heap.size w).alloc (Nat.le_refl _) x).mono hB)) (by simp; omega))
  have HSM := Lib.hid (fun x => Same_any c Co0 A1 D1 c1 e1 none none 0 0 B B (w.alloc x) (h1.below (((Below.refl w.heap.size w).alloc (Nat.le_refl _) x).mono hB)) (CoR.zero _ _ _ _) (by simp; omega) (by simp; omega))
  have d0 : (c.st == 0) = false := beq_eq_false_iff_ne.2 (by omega)
  have d2 : (c.st == 2) = false := beq_eq_false_iff_ne.2 (by omega)
  have d3 : (c.st == 3) = false := beq_eq_false_iff_ne.2 (by omega)
  have d4 : (c.st == 4) = false := beq_eq_false_iff_ne.2 (by omega)
  have d1 : (c.st == 1) = false := beq_eq_false_iff_ne.2 (by omega)
  have d5 : (c.st == 5) = true := beq_iff_eq.2 hst
  have d6 : (c.st == 6) = false := beq_eq_false_iff_ne.2 (by omega)
  have d10 : (c.th == 0) = true := beq_iff_eq.2 (by omega)
  have d11 : (c.ag == 0) = true := beq_iff_eq.2 (by omega)
  have d12 : ((c.ps.length : Int) == 0) = true := beq_iff_eq.2 (by omega)
  have d13 : ((c.qs.length : Int) == 0) = true := beq_iff_eq.2 (by omega)
  generalize rangeB c = br at *
  generalize sameB c Co0 = bs0 at *
  have HS := Lib.hid hs
  clear hs h1 hst h2 h3 h4 h5
  go_enter Tryz.func44, Tryz.ntmps44
  go_wp2_with (first | (go_at_call 72; refine (HR.out _).mono ?_; rintro e w1 ⟨rfl, hbr⟩) | (go_at_call 49; refine (HSM.out _).mono ?_; rintro e w1 ⟨rfl, hbr⟩))
  go_ret
  refine ⟨ret_bool HS.out.symm, ?_⟩
  first | exact HB.out _ | exact btrans (HB.out _) hbr

set_option maxRecDepth 100000 in
set_option maxHeartbeats 1000000 in
theorem may_6_0 (c : Co) (A1 D1 : Option Addr) (c1 e1 : Nat) (B : Nat) (w : World) (h1 : CoR w B c A1 D1) (hB : B ≤ w.heap.size) (hst : c.st = 6) (h2 : c.th < 0 ∨ 0 < c.th) :
    Calls Tryz.prog 44 #[(.agg #[.int .i8 c.st, .int .i64 c.pid, .int .i64 c.ep, .int .i64 c.tm, .int .i64 c.th, .slice A1 c.ps.length c1, .slice D1 c.qs.length e1, .int .i64 c.ag])] w fun e w' => e = .returned (.bool (mayB c)) ∧ Below w.heap.size w w' := by
  have hs : mayB c = false := by
    unfold mayB
    rw [if_neg (by omega), if_neg (by omega), if_neg (by omega), if_neg (by omega), if_pos (by omega)]
    simp only [idleB]
    generalize rangeB c = br
    generalize c.ps.length = n at *
    generalize c.qs.length = m at *
    cases br <;> simp <;> omega
  have HB := Lib.hid (fun x => bal (Below.refl w.heap.size w) x)
  have HR := Lib.hid (fun x => inRange_any c A1 D1 c1 e1 B (w.alloc x) (h1.below (((Below.refl w.heap.size w).alloc (Nat.le_refl _) x).mono hB)) (by simp; omega))
  have HSM := Lib.hid (fun x => Same_any c Co0 A1 D1 c1 e1 none none 0 0 B B (w.alloc x) (h1.below (((Below.refl w.heap.size w).alloc (Nat.le_refl _) x).mono hB)) (CoR.zero _ _ _ _) (by simp; omega) (by simp; omega))
  have d0 : (c.st == 0) = false := beq_eq_false_iff_ne.2 (by omega)
  have d2 : (c.st == 2) = false := beq_eq_false_iff_ne.2 (by omega)
  have d3 : (c.st == 3) = false := beq_eq_false_iff_ne.2 (by omega)
  have d4 : (c.st == 4) = false := beq_eq_false_iff_ne.2 (by omega)
  have d1 : (c.st == 1) = false := beq_eq_false_iff_ne.2 (by omega)
  have d5 : (c.st == 5) = false := beq_eq_false_iff_ne.2 (by omega)
  have d6 : (c.st == 6) = true := beq_iff_eq.2 hst
  have d10 : (c.th == 0) = false := beq_eq_false_iff_ne.2 (by omega)
  generalize rangeB c = br at *
  generalize sameB c Co0 = bs0 at *
  have HS := Lib.hid hs
  clear hs h1 hst h2
  go_enter Tryz.func44, Tryz.ntmps44
  go_wp2_with (first | (go_at_call 72; refine (HR.out _).mono ?_; rintro e w1 ⟨rfl, hbr⟩) | (go_at_call 49; refine (HSM.out _).mono ?_; rintro e w1 ⟨rfl, hbr⟩))
  go_ret
  refine ⟨ret_bool HS.out.symm, ?_⟩
  first | exact HB.out _ | exact btrans (HB.out _) hbr

set_option maxRecDepth 100000 in
set_option maxHeartbeats 1000000 in
theorem may_6_1 (c : Co) (A1 D1 : Option Addr) (c1 e1 : Nat) (B : Nat) (w : World) (h1 : CoR w B c A1 D1) (hB : B ≤ w.heap.size) (hst : c.st = 6) (h2 : c.th = 0) (h3 : c.ag < 0 ∨ 0 < c.ag) :
    Calls Tryz.prog 44 #[(.agg #[.int .i8 c.st, .int .i64 c.pid, .int .i64 c.ep, .int .i64 c.tm, .int .i64 c.th, .slice A1 c.ps.length c1, .slice D1 c.qs.length e1, .int .i64 c.ag])] w fun e w' => e = .returned (.bool (mayB c)) ∧ Below w.heap.size w w' := by
  have hs : mayB c = false := by
    unfold mayB
    rw [if_neg (by omega), if_neg (by omega), if_neg (by omega), if_neg (by omega), if_pos (by omega)]
    simp only [idleB]
    generalize rangeB c = br
    generalize c.ps.length = n at *
    generalize c.qs.length = m at *
    cases br <;> simp <;> omega
  have HB := Lib.hid (fun x => bal (Below.refl w.heap.size w) x)
  have HR := Lib.hid (fun x => inRange_any c A1 D1 c1 e1 B (w.alloc x) (h1.below (((Below.refl w.heap.size w).alloc (Nat.le_refl _) x).mono hB)) (by simp; omega))
  have HSM := Lib.hid (fun x => Same_any c Co0 A1 D1 c1 e1 none none 0 0 B B (w.alloc x) (h1.below (((Below.refl w.heap.size w).alloc (Nat.le_refl _) x).mono hB)) (CoR.zero _ _ _ _) (by simp; omega) (by simp; omega))
  have d0 : (c.st == 0) = false := beq_eq_false_iff_ne.2 (by omega)
  have d2 : (c.st == 2) = false := beq_eq_false_iff_ne.2 (by omega)
  have d3 : (c.st == 3) = false := beq_eq_false_iff_ne.2 (by omega)
  have d4 : (c.st == 4) = false := beq_eq_false_iff_ne.2 (by omega)
  have d1 : (c.st == 1) = false := beq_eq_false_iff_ne.2 (by omega)
  have d5 : (c.st == 5) = false := beq_eq_false_iff_ne.2 (by omega)
  have d6 : (c.st == 6) = true := beq_iff_eq.2 hst
  have d10 : (c.th == 0) = true := beq_iff_eq.2 (by omega)
  have d11 : (c.ag == 0) = false := beq_eq_false_iff_ne.2 (by omega)
  generalize rangeB c = br at *
  generalize sameB c Co0 = bs0 at *
  have HS := Lib.hid hs
  clear hs h1 hst h2 h3
  go_enter Tryz.func44, Tryz.ntmps44
  go_wp2_with (first | (go_at_call 72; refine (HR.out _).mono ?_; rintro e w1 ⟨rfl, hbr⟩) | (go_at_call 49; refine (HSM.out _).mono ?_; rintro e w1 ⟨rfl, hbr⟩))
  go_ret
  refine ⟨ret_bool HS.out.symm, ?_⟩
  first | exact HB.out _ | exact btrans (HB.out _) hbr

set_option maxRecDepth 100000 in
set_option maxHeartbeats 1000000 in
theorem may_6_2 (c : Co) (A1 D1 : Option Addr) (c1 e1 : Nat) (B : Nat) (w : World) (h1 : CoR w B c A1 D1) (hB : B ≤ w.heap.size) (hst : c.st = 6) (h2 : c.th = 0) (h3 : c.ag = 0) (h4 : 0 < c.ps.length) :
    Calls Tryz.prog 44 #[(.agg #[.int .i8 c.st, .int .i64 c.pid, .int .i64 c.ep, .int .i64 c.tm, .int .i64 c.th, .slice A1 c.ps.length c1, .slice D1 c.qs.length e1, .int .i64 c.ag])] w fun e w' => e = .returned (.bool (mayB c)) ∧ Below w.heap.size w w' := by
  have hs : mayB c = false := by
    unfold mayB
    rw [if_neg (by omega), if_neg (by omega), if_neg (by omega), if_neg (by omega), if_pos (by omega)]
    simp only [idleB]
    generalize rangeB c = br
    generalize c.ps.length = n at *
    generalize c.qs.length = m at *
    cases br <;> simp <;> omega
  have HB := Lib.hid (fun x => bal (Below.refl w.heap.size w) x)
  have HR := Lib.hid (fun x => inRange_any c A1 D1 c1 e1 B (w.alloc x) (h1.below (((Below.refl w.heap.size w).alloc (Nat.le_refl _) x).mono hB)) (by simp; omega))
  have HSM := Lib.hid (fun x => Same_any c Co0 A1 D1 c1 e1 none none 0 0 B B (w.alloc x) (h1.below (((Below.refl w.heap.size w).alloc (Nat.le_refl _) x).mono hB)) (CoR.zero _ _ _ _) (by simp; omega) (by simp; omega))
  have d0 : (c.st == 0) = false := beq_eq_false_iff_ne.2 (by omega)
  have d2 : (c.st == 2) = false := beq_eq_false_iff_ne.2 (by omega)
  have d3 : (c.st == 3) = false := beq_eq_false_iff_ne.2 (by omega)
  have d4 : (c.st == 4) = false := beq_eq_false_iff_ne.2 (by omega)
  have d1 : (c.st == 1) = false := beq_eq_false_iff_ne.2 (by omega)
  have d5 : (c.st == 5) = false := beq_eq_false_iff_ne.2 (by omega)
  have d6 : (c.st == 6) = true := beq_iff_eq.2 hst
  have d10 : (c.th == 0) = true := beq_iff_eq.2 (by omega)
  have d11 : (c.ag == 0) = true := beq_iff_eq.2 (by omega)
  have d12 : ((c.ps.length : Int) == 0) = false := beq_eq_false_iff_ne.2 (by omega)
  generalize rangeB c = br at *
  generalize sameB c Co0 = bs0 at *
  have HS := Lib.hid hs
  clear hs h1 hst h2 h3 h4
  go_enter Tryz.func44, Tryz.ntmps44
  go_wp2_with (first | (go_at_call 72; refine (HR.out _).mono ?_; rintro e w1 ⟨rfl, hbr⟩) | (go_at_call 49; refine (HSM.out _).mono ?_; rintro e w1 ⟨rfl, hbr⟩))
  go_ret
  refine ⟨ret_bool HS.out.symm, ?_⟩
  first | exact HB.out _ | exact btrans (HB.out _) hbr

set_option maxRecDepth 100000 in
set_option maxHeartbeats 1000000 in
theorem may_6_3 (c : Co) (A1 D1 : Option Addr) (c1 e1 : Nat) (B : Nat) (w : World) (h1 : CoR w B c A1 D1) (hB : B ≤ w.heap.size) (hst : c.st = 6) (h2 : c.th = 0) (h3 : c.ag = 0) (h4 : c.ps.length = 0) (h5 : 0 < c.qs.length) :
    Calls Tryz.prog 44 #[(.agg #[.int .i8 c.st, .int .i64 c.pid, .int .i64 c.ep, .int .i64 c.tm, .int .i64 c.th, .slice A1 c.ps.length c1, .slice D1 c.qs.length e1, .int .i64 c.ag])] w fun e w' => e = .returned (.bool (mayB c)) ∧ Below w.heap.size w w' := by
  have hs : mayB c = false := by
    unfold mayB
    rw [if_neg (by omega), if_neg (by omega), if_neg (by omega), if_neg (by omega), if_pos (by omega)]
    simp only [idleB]
    generalize rangeB c = br
    generalize c.ps.length = n at *
    generalize c.qs.length = m at *
    cases br <;> simp <;> omega
  have HB := Lib.hid (fun x => bal (Below.refl w.heap.size w) x)
  have HR := Lib.hid (fun x => inRange_any c A1 D1 c1 e1 B (w.alloc x) (h1.below (((Below.refl w.heap.size w).alloc (Nat.le_refl _) x).mono hB)) (by simp; omega))
  have HSM := Lib.hid (fun x => Same_any c Co0 A1 D1 c1 e1 none none 0 0 B B (w.alloc x) (h1.below (((Below.refl w.heap.size w).alloc (Nat.le_refl _) x).mono hB)) (CoR.zero _ _ _ _) (by simp; omega) (by simp; omega))
  have d0 : (c.st == 0) = false := beq_eq_false_iff_ne.2 (by omega)
  have d2 : (c.st == 2) = false := beq_eq_false_iff_ne.2 (by omega)
  have d3 : (c.st == 3) = false := beq_eq_false_iff_ne.2 (by omega)
  have d4 : (c.st == 4) = false := beq_eq_false_iff_ne.2 (by omega)
  have d1 : (c.st == 1) = false := beq_eq_false_iff_ne.2 (by omega)
  have d5 : (c.st == 5) = false := beq_eq_false_iff_ne.2 (by omega)
  have d6 : (c.st == 6) = true := beq_iff_eq.2 hst
  have d10 : (c.th == 0) = true := beq_iff_eq.2 (by omega)
  have d11 : (c.ag == 0) = true := beq_iff_eq.2 (by omega)
  have d12 : ((c.ps.length : Int) == 0) = true := beq_iff_eq.2 (by omega)
  have d13 : ((c.qs.length : Int) == 0) = false := beq_eq_false_iff_ne.2 (by omega)
  generalize rangeB c = br at *
  generalize sameB c Co0 = bs0 at *
  have HS := Lib.hid hs
  clear hs h1 hst h2 h3 h4 h5
  go_enter Tryz.func44, Tryz.ntmps44
  go_wp2_with (first | (go_at_call 72; refine (HR.out _).mono ?_; rintro e w1 ⟨rfl, hbr⟩) | (go_at_call 49; refine (HSM.out _).mono ?_; rintro e w1 ⟨rfl, hbr⟩))
  go_ret
  refine ⟨ret_bool HS.out.symm, ?_⟩
  first | exact HB.out _ | exact btrans (HB.out _) hbr

set_option maxRecDepth 100000 in
set_option maxHeartbeats 1000000 in
theorem may_6_4 (c : Co) (A1 D1 : Option Addr) (c1 e1 : Nat) (B : Nat) (w : World) (h1 : CoR w B c A1 D1) (hB : B ≤ w.heap.size) (hst : c.st = 6) (h2 : c.th = 0) (h3 : c.ag = 0) (h4 : c.ps.length = 0) (h5 : c.qs.length = 0) :
    Calls Tryz.prog 44 #[(.agg #[.int .i8 c.st, .int .i64 c.pid, .int .i64 c.ep, .int .i64 c.tm, .int .i64 c.th, .slice A1 c.ps.length c1, .slice D1 c.qs.length e1, .int .i64 c.ag])] w fun e w' => e = .returned (.bool (mayB c)) ∧ Below w.heap.size w w' := by
  have hs : mayB c = rangeB c := by
    unfold mayB
    rw [if_neg (by omega), if_neg (by omega), if_neg (by omega), if_neg (by omega), if_pos (by omega)]
    simp only [idleB]
    generalize rangeB c = br
    generalize c.ps.length = n at *
    generalize c.qs.length = m at *
    cases br <;> simp <;> omega
  have HB := Lib.hid (fun x => bal (Below.refl w.heap.size w) x)
  have HR := Lib.hid (fun x => inRange_any c A1 D1 c1 e1 B (w.alloc x) (h1.below (((Below.refl w.heap.size w).alloc (Nat.le_refl _) x).mono hB)) (by simp; omega))
  have HSM := Lib.hid (fun x => Same_any c Co0 A1 D1 c1 e1 none none 0 0 B B (w.alloc x) (h1.below (((Below.refl w.heap.size w).alloc (Nat.le_refl _) x).mono hB)) (CoR.zero _ _ _ _) (by simp; omega) (by simp; omega))
  have d0 : (c.st == 0) = false := beq_eq_false_iff_ne.2 (by omega)
  have d2 : (c.st == 2) = false := beq_eq_false_iff_ne.2 (by omega)
  have d3 : (c.st == 3) = false := beq_eq_false_iff_ne.2 (by omega)
  have d4 : (c.st == 4) = false := beq_eq_false_iff_ne.2 (by omega)
  have d1 : (c.st == 1) = false := beq_eq_false_iff_ne.2 (by omega)
  have d5 : (c.st == 5) = false := beq_eq_false_iff_ne.2 (by omega)
  have d6 : (c.st == 6) = true := beq_iff_eq.2 hst
  have d10 : (c.th == 0) = true := beq_iff_eq.2 (by omega)
  have d11 : (c.ag == 0) = true := beq_iff_eq.2 (by omega)
  have d12 : ((c.ps.length : Int) == 0) = true := beq_iff_eq.2 (by omega)
  have d13 : ((c.qs.length : Int) == 0) = true := beq_iff_eq.2 (by omega)
  generalize rangeB c = br at *
  generalize sameB c Co0 = bs0 at *
  have HS := Lib.hid hs
  clear hs h1 hst h2 h3 h4 h5
  go_enter Tryz.func44, Tryz.ntmps44
  go_wp2_with (first | (go_at_call 72; refine (HR.out _).mono ?_; rintro e w1 ⟨rfl, hbr⟩) | (go_at_call 49; refine (HSM.out _).mono ?_; rintro e w1 ⟨rfl, hbr⟩))
  go_ret
  refine ⟨ret_bool HS.out.symm, ?_⟩
  first | exact HB.out _ | exact btrans (HB.out _) hbr

theorem May_any (c : Co) (A1 D1 : Option Addr) (c1 e1 : Nat) (B : Nat) (w : World) (h1 : CoR w B c A1 D1) (hB : B ≤ w.heap.size) :
    Calls Tryz.prog 44 #[(.agg #[.int .i8 c.st, .int .i64 c.pid, .int .i64 c.ep, .int .i64 c.tm, .int .i64 c.th, .slice A1 c.ps.length c1, .slice D1 c.qs.length e1, .int .i64 c.ag])] w fun e w' => e = .returned (.bool (mayB c)) ∧ Below w.heap.size w w' := by
  have h : c.st = 0 ∨ c.st = 1 ∨ c.st = 2 ∨ c.st = 3 ∨ c.st = 4 ∨ c.st = 5 ∨ c.st = 6 ∨ (c.st < 0 ∨ 6 < c.st) := by omega
  have hi : (c.th < 0 ∨ 0 < c.th) ∨ (c.th = 0 ∧ (c.ag < 0 ∨ 0 < c.ag)) ∨ (c.th = 0 ∧ c.ag = 0 ∧ 0 < c.ps.length) ∨ (c.th = 0 ∧ c.ag = 0 ∧ c.ps.length = 0 ∧ 0 < c.qs.length) ∨ (c.th = 0 ∧ c.ag = 0 ∧ c.ps.length = 0 ∧ c.qs.length = 0) := by omega
  have h2 : (c.ps.length = 0 ∧ c.qs.length = 0) ∨ (c.ps.length = 0 ∧ 0 < c.qs.length ∧ (c.th < 0 ∨ 0 < c.th)) ∨ (c.ps.length = 0 ∧ 0 < c.qs.length ∧ c.th = 0) ∨ (0 < c.ps.length ∧ (c.th < 0 ∨ 0 < c.th)) ∨ (0 < c.ps.length ∧ c.th = 0) := by omega
  have h4 : c.th < 0 ∨ 20 < c.th ∨ ((0 < c.th ∧ c.th ≤ 20) ∧ 100 ≤ c.ep) ∨ ((0 < c.th ∧ c.th ≤ 20) ∧ c.ep < 100) ∨ c.th = 0 := by omega
  have h3 : (c.th < 0 ∨ 0 < c.th) ∨ c.th = 0 := by omega
  rcases h with h | h | h | h | h | h | h | h
  · exact may_0_0 c A1 D1 c1 e1 B w h1 hB h
  · rcases hi with k | ⟨k1, k2⟩ | ⟨k1, k2, k3⟩ | ⟨k1, k2, k3, k4⟩ | ⟨k1, k2, k3, k4⟩
    · exact may_1_0 c A1 D1 c1 e1 B w h1 hB h k
    · exact may_1_1 c A1 D1 c1 e1 B w h1 hB h k1 k2
    · exact may_1_2 c A1 D1 c1 e1 B w h1 hB h k1 k2 k3
    · exact may_1_3 c A1 D1 c1 e1 B w h1 hB h k1 k2 k3 k4
    · exact may_1_4 c A1 D1 c1 e1 B w h1 hB h k1 k2 k3 k4
  · rcases h2 with ⟨k1, k2⟩ | ⟨k1, k2, k3⟩ | ⟨k1, k2, k3⟩ | ⟨k1, k2⟩ | ⟨k1, k2⟩
    · exact may_2_0 c A1 D1 c1 e1 B w h1 hB h k1 k2
    · exact may_2_1 c A1 D1 c1 e1 B w h1 hB h k1 k2 k3
    · exact may_2_2 c A1 D1 c1 e1 B w h1 hB h k1 k2 k3
    · exact may_2_3 c A1 D1 c1 e1 B w h1 hB h k1 k2
    · exact may_2_4 c A1 D1 c1 e1 B w h1 hB h k1 k2
  · rcases h3 with k1 | k1
    · exact may_3_0 c A1 D1 c1 e1 B w h1 hB h k1
    · exact may_3_1 c A1 D1 c1 e1 B w h1 hB h k1
  · rcases h4 with k1 | k1 | ⟨k1, k2⟩ | ⟨k1, k2⟩ | k1
    · exact may_4_0 c A1 D1 c1 e1 B w h1 hB h k1
    · exact may_4_1 c A1 D1 c1 e1 B w h1 hB h k1
    · exact may_4_2 c A1 D1 c1 e1 B w h1 hB h k1 k2
    · exact may_4_3 c A1 D1 c1 e1 B w h1 hB h k1 k2
    · exact may_4_4 c A1 D1 c1 e1 B w h1 hB h k1
  · rcases hi with k | ⟨k1, k2⟩ | ⟨k1, k2, k3⟩ | ⟨k1, k2, k3, k4⟩ | ⟨k1, k2, k3, k4⟩
    · exact may_5_0 c A1 D1 c1 e1 B w h1 hB h k
    · exact may_5_1 c A1 D1 c1 e1 B w h1 hB h k1 k2
    · exact may_5_2 c A1 D1 c1 e1 B w h1 hB h k1 k2 k3
    · exact may_5_3 c A1 D1 c1 e1 B w h1 hB h k1 k2 k3 k4
    · exact may_5_4 c A1 D1 c1 e1 B w h1 hB h k1 k2 k3 k4
  · rcases hi with k | ⟨k1, k2⟩ | ⟨k1, k2, k3⟩ | ⟨k1, k2, k3, k4⟩ | ⟨k1, k2, k3, k4⟩
    · exact may_6_0 c A1 D1 c1 e1 B w h1 hB h k
    · exact may_6_1 c A1 D1 c1 e1 B w h1 hB h k1 k2
    · exact may_6_2 c A1 D1 c1 e1 B w h1 hB h k1 k2 k3
    · exact may_6_3 c A1 D1 c1 e1 B w h1 hB h k1 k2 k3 k4
    · exact may_6_4 c A1 D1 c1 e1 B w h1 hB h k1 k2 k3 k4
  · exact may_x_0 c A1 D1 c1 e1 B w h1 hB h
end Go.Proofs.YtbpkckahonmpkaaGreatDoor
