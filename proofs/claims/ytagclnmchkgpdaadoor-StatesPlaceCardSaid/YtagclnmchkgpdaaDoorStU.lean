/-
  Layer 18: what Place gives, plainly.
-/
import Derived.Test.YtagclnmchkgpdaaDoorStT
namespace Go.Proofs.YtagclnmchkgpdaaDoor
open Go.RowKit

theorem same_refl (c : Co) : sameB c c = true := by unfold sameB; simp
theorem same_eq {c d : Co} (h : sameB c d = true) : c = d := by
  unfold sameB at h
  simp only [Bool.and_eq_true, beq_iff_eq, decide_eq_true_eq] at h
  obtain ⟨h1, h2, h3, h4, h5, h6, h7, h8⟩ := h
  cases c; cases d
  simp only at h1 h2 h3 h4 h5 h6 h7 h8
  subst h1; subst h2; subst h3; subst h4; subst h5; subst h6; subst h7; subst h8
  rfl
theorem may_none {c : Co} (h : mayB c = true) (h0 : c.st = 0) : c = Co0 := by
  unfold mayB at h
  rw [if_pos h0] at h
  exact same_eq h
/-- The states. -/
theorem may_st {c : Co} (h : mayB c = true) : 0 ≤ c.st ∧ c.st ≤ 6 := by
  unfold mayB at h
  by_cases h0 : c.st = 0
  · omega
  · rw [if_neg h0] at h
    by_cases h2 : c.st = 2
    · omega
    · rw [if_neg h2] at h
      by_cases h3 : c.st = 3
      · omega
      · rw [if_neg h3] at h
        by_cases h4 : c.st = 4
        · omega
        · rw [if_neg h4] at h
          by_cases h5 : c.st = 1 ∨ c.st = 5 ∨ c.st = 6
          · omega
          · rw [if_neg h5] at h; cases h
theorem may_idle {c : Co} (h : mayB c = true) (hs : c.st = 1 ∨ c.st = 5 ∨ c.st = 6) : c.th = 0 ∧ c.ag = 0 ∧ c.ps = [] ∧ c.qs = [] ∧ rangeB c = true := by
  unfold mayB at h
  rw [if_neg (by omega), if_neg (by omega), if_neg (by omega), if_neg (by omega), if_pos hs] at h
  unfold idleB at h
  simp only [Bool.and_eq_true, beq_iff_eq, decide_eq_true_eq] at h
  exact ⟨h.1, h.2.1, List.eq_nil_of_length_eq_zero h.2.2.1, List.eq_nil_of_length_eq_zero h.2.2.2.1, h.2.2.2.2⟩
theorem may_going {c : Co} (h : mayB c = true) (hs : c.st = 2) : ¬ (c.ps.length = 0 ∧ c.qs.length = 0) ∧ c.th = 0 ∧ rangeB c = true := by
  unfold mayB at h
  rw [if_neg (by omega), if_pos hs] at h
  unfold tailB at h
  simp only [Bool.and_eq_true, beq_iff_eq, Bool.not_eq_true', Bool.and_eq_false_iff, decide_eq_false_iff_not] at h
  exact ⟨by rcases h.1 with h1 | h1 <;> omega, h.2.1, h.2.2.2⟩
theorem range_parts {c : Co} (h : rangeB c = true) : partsB c.ps = true := by
  unfold rangeB at h
  simp only [Bool.and_eq_true] at h
  exact h.2.2.2.2.2.2.2.2.2.1
theorem range_with {c : Co} (h : rangeB c = true) (l : List Int) (hl : partsB l = true) (st ag : Int) (h1 : 0 ≤ ag) (h2 : ag ≤ 1048576) : rangeB { c with ps := l, st := st, ag := ag } = true := by
  unfold rangeB at h ⊢
  simp only [Bool.and_eq_true, decide_eq_true_eq] at h ⊢
  exact ⟨h.1, h.2.1, h.2.2.1, h.2.2.2.1, h.2.2.2.2.1, h.2.2.2.2.2.1, h.2.2.2.2.2.2.1, h1, h2, hl, h.2.2.2.2.2.2.2.2.2.2⟩
theorem parts_of_may {c : Co} (h : mayB c = true) : partsB c.ps = true := by
  by_cases h0 : c.st = 0
  · rw [may_none h h0]; exact by unfold partsB; rw [adjB_true (Adj.one (by simp [Co0]))]; simp [Co0]
  · exact range_parts (may_range h h0)

theorem place_own_e {c : Co} (h : mayB c = true) : placeE c c.ps = 0 := by
  unfold placeE
  rw [if_neg (by rw [h, parts_of_may h]; simp), if_neg]
  rintro ⟨h0, h1⟩
  rw [may_none h h0] at h1
  simp [Co0] at h1
theorem place_own {c : Co} (h : mayB c = true) : placeC c c.ps = c := by
  unfold placeC
  rw [if_neg (by rw [place_own_e h]; simp)]
  by_cases h34 : c.st = 3 ∨ c.st = 4
  · rw [if_pos h34]
  · rw [if_neg h34]
    by_cases h2 : c.st = 2
    · rw [if_pos h2, if_neg (may_going h h2).1]
    · rw [if_neg h2, if_neg]
      intro hp
      have hs := may_st h
      by_cases h0 : c.st = 0
      · rw [may_none h h0] at hp; simp [Co0] at hp
      · have := (may_idle h (by omega)).2.2.1
        rw [this] at hp; simp at hp

theorem place_may {c : Co} {l : List Int} (h : mayB c = true) (hp : placeE c l = 0) :
    mayB (placeC c l) = true ∧ (placeC c l).ps = l ∧ (placeC c l).qs = c.qs ∧ (placeC c l).pid = c.pid ∧ (placeC c l).ep = c.ep ∧ (placeC c l).tm = c.tm := by
  have hl : partsB l = true := by
    unfold placeE at hp
    by_cases hx : mayB c = false ∨ partsB l = false
    · rw [if_pos hx] at hp; cases hp
    · simp only [not_or, Bool.not_eq_false] at hx
      exact hx.2
  have h00 : ¬ (c.st = 0 ∧ 0 < l.length) := by
    unfold placeE at hp
    intro hx
    rw [if_neg (by rw [h, hl]; simp), if_pos hx] at hp
    cases hp
  have hs := may_st h
  unfold placeC
  rw [if_neg (by rw [hp]; simp)]
  by_cases h34 : c.st = 3 ∨ c.st = 4
  · rw [if_pos h34]
    refine ⟨?_, rfl, rfl, rfl, rfl, rfl⟩
    have hr := may_range h (by omega)
    have ha := range_ag hr
    have hr2 := range_with hr l hl c.st c.ag ha.1 ha.2
    unfold mayB at h ⊢
    simp only
    rw [if_neg (by omega), if_neg (by omega)] at h ⊢
    by_cases h3 : c.st = 3
    · rw [if_pos h3] at h ⊢
      unfold tailB at h ⊢
      simp only [Bool.and_eq_true] at h ⊢
      exact ⟨h.1, h.2.1, hr2⟩
    · rw [if_neg h3, if_pos (by omega)] at h ⊢
      unfold tailB at h ⊢
      simp only [Bool.and_eq_true] at h ⊢
      exact ⟨h.1, hr2⟩
  · rw [if_neg h34]
    by_cases h2 : c.st = 2
    · rw [if_pos h2]
      obtain ⟨_, hth, hr⟩ := may_going h h2
      have ha := range_ag hr
      by_cases he : l.length = 0 ∧ c.qs.length = 0
      · rw [if_pos he]
        refine ⟨?_, rfl, rfl, rfl, rfl, rfl⟩
        have hr2 := range_with hr l hl 1 0 (by omega) (by omega)
        unfold mayB
        simp only
        rw [if_neg (by simp), if_neg (by simp), if_neg (by simp), if_neg (by simp), if_pos (by simp)]
        unfold idleB
        simp only [Bool.and_eq_true, beq_iff_eq, decide_eq_true_eq]
        exact ⟨hth, by simp, he.1, he.2, hr2⟩
      · rw [if_neg he]
        refine ⟨?_, rfl, rfl, rfl, rfl, rfl⟩
        have hr2 := range_with hr l hl c.st c.ag ha.1 ha.2
        unfold mayB
        simp only
        rw [if_neg (by omega), if_pos h2]
        unfold tailB
        simp only [Bool.and_eq_true, beq_iff_eq, Bool.not_eq_true', Bool.and_eq_false_iff, decide_eq_false_iff_not, Bool.or_eq_false_iff]
        exact ⟨by omega, hth, ⟨by omega, by omega, by omega⟩, hr2⟩
    · rw [if_neg h2]
      by_cases h0 : c.st = 0
      · rw [if_neg (by omega)]
        have hc := may_none h h0
        have hln : l = [] := List.eq_nil_of_length_eq_zero (by omega)
        subst hln
        refine ⟨?_, rfl, rfl, rfl, rfl, rfl⟩
        have hcp : c.ps = [] := by rw [hc]; rfl
        have : ({ c with ps := [] } : Co) = c := by rw [← hcp]
        rw [this]; exact h
      · obtain ⟨hth, hag, hps, hqs, hr⟩ := may_idle h (by omega)
        by_cases hpos : 0 < l.length
        · rw [if_pos hpos]
          refine ⟨?_, rfl, rfl, rfl, rfl, rfl⟩
          have hr2 := range_with hr l hl 2 c.ag (by omega) (by omega)
          unfold mayB
          simp only
          rw [if_neg (by simp), if_pos (by simp)]
          unfold tailB
          simp only [Bool.and_eq_true, beq_iff_eq, Bool.not_eq_true', Bool.and_eq_false_iff, decide_eq_false_iff_not, Bool.or_eq_false_iff]
          exact ⟨by omega, hth, ⟨by omega, by omega, by omega⟩, hr2⟩
        · rw [if_neg hpos]
          have hln : l = [] := List.eq_nil_of_length_eq_zero (by omega)
          subst hln
          refine ⟨?_, rfl, rfl, rfl, rfl, rfl⟩
          have : ({ c with ps := [] } : Co) = c := by rw [← hps]
          rw [this]; exact h
theorem place_err {c : Co} {l : List Int} (h : mayB c = true) (hp : ¬ placeE c l = 0) : placeE c l = 2 ∨ (placeE c l = 180 ∧ c.st = 0) := by
  unfold placeE at hp ⊢
  split
  · exact .inl rfl
  · split
    · rename_i h1 h2
      exact .inr ⟨rfl, h2.1⟩
    · rename_i h1 h2
      rw [if_neg h1, if_neg h2] at hp
      exact absurd rfl hp
end Go.Proofs.YtagclnmchkgpdaaDoor
