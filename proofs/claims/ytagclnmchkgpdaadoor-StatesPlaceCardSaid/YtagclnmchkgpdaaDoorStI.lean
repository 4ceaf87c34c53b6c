/-
  Layer 18, the document's May.
-/
import Derived.Test.YtagclnmchkgpdaaDoorStH
namespace Go.Proofs.YtagclnmchkgpdaaDoor
open Go.RowKit

/-- The pends, as the document asks them: each one, and that each is behind the one ahead of it. -/
def PendsTo (l : List Pd) (k : Nat) : Prop := Adj aheadP l k ∧ (l.take k).all pendB = true
open Classical in
noncomputable def pendsB (l : List Pd) : Bool := decide (PendsTo l l.length)
theorem pendsB_true {l : List Pd} (h : PendsTo l l.length) : pendsB l = true := by unfold pendsB; simpa using h
theorem pendsB_false {l : List Pd} (h : ¬ PendsTo l l.length) : pendsB l = false := by unfold pendsB; simpa using h
theorem pendsB_eq (l : List Pd) : pendsB l = (l.all pendB && adjB aheadP l) := by
  by_cases h : PendsTo l l.length
  · rw [pendsB_true h]
    obtain ⟨h1, h2⟩ := h
    rw [List.take_length] at h2
    rw [h2, adjB_true h1]; rfl
  · rw [pendsB_false h]
    cases h2 : l.all pendB
    · rfl
    · cases h3 : adjB aheadP l
      · rfl
      · refine absurd ⟨?_, ?_⟩ h
        · unfold adjB at h3
          simpa using h3
        · rw [List.take_length]; exact h2

/-- The tests ahead of the pends. -/
noncomputable def aheadsB (c : Co) : Bool := inB c.st 1 6 && (inB c.pid 1 8 && (inB c.ep 0 100 && (inB c.tm 1 20 && (inB c.ag 0 1048576 && (riseB c.ps && inB c.th 0 20)))))
noncomputable def lastB (c : Co) : Bool :=
  !((!busyB c && (decide (0 < c.ps.length) || (decide (0 < c.qs.length) || decide (0 < c.ag)))) || ((c.st == 2) && (decide (c.ps.length = 0) && decide (c.qs.length = 0)))) && ((c.th == 0) || ((c.st == 4) && decide (c.ep < 100)))
noncomputable def rmayB (c : Co) : Bool := if c.st = 0 then sameB c Co0 else aheadsB c && (pendsB c.qs && lastB c)

theorem may_same (c : Co) : rmayB c = mayB c := by
  unfold rmayB mayB
  by_cases h0 : c.st = 0
  · rw [if_pos h0, if_pos h0]
  · rw [if_neg h0, if_neg h0]
    unfold aheadsB lastB tailB idleB rangeB busyB inB
    rw [riseB_parts, pendsB_eq]
    generalize c.qs.all pendB = b1
    generalize adjB aheadP c.qs = b2
    generalize partsB c.ps = b3
    generalize c.ps.length = n
    generalize c.qs.length = m
    by_cases h2 : c.st = 2
    · rw [if_pos h2, h2]
      cases b1 <;> cases b2 <;> cases b3 <;> simp <;> (try (first | (rw [Bool.eq_iff_iff]; simp; omega) | (intros; omega)))
    · rw [if_neg h2]
      by_cases h3 : c.st = 3
      · rw [if_pos h3, h3]
        cases b1 <;> cases b2 <;> cases b3 <;> simp <;> (try (first | (rw [Bool.eq_iff_iff]; simp; omega) | (intros; omega)))
      · rw [if_neg h3]
        by_cases h4 : c.st = 4
        · rw [if_pos h4, h4]
          cases b1 <;> cases b2 <;> cases b3 <;> simp <;> (try (first | (rw [Bool.eq_iff_iff]; simp; omega) | (intros; omega)))
        · rw [if_neg h4]
          by_cases h5 : c.st = 1 ∨ c.st = 5 ∨ c.st = 6
          · rw [if_pos h5]
            cases b1 <;> cases b2 <;> cases b3 <;> simp <;> (try (first | (rw [Bool.eq_iff_iff]; simp; omega) | (intros; omega)))
          · rw [if_neg h5]
            cases b1 <;> cases b2 <;> cases b3 <;> simp <;> (try (first | (rw [Bool.eq_iff_iff]; simp; omega) | (intros; omega)))
end Go.Proofs.YtagclnmchkgpdaaDoor
