/-
  Plain laws on frames that are cut: the first ones are whole, and what is torn is less than the next one's frame.
-/
import Derived.Test.YtlojphajdefkdaaFrI
namespace Go.Proofs.Ytlojphajdefkdaa

theorem from_joined_app (ls : List (List UInt8)) (r : List UInt8) (h : ∀ l ∈ ls, l.length ≤ 1024) : loadsFrom (joined ls ++ r) 0 = ls ++ loadsFrom r 0 ∧ endFrom (joined ls ++ r) 0 = (joined ls).length + endFrom r 0 := by
  induction ls with
  | nil => simp [joined]
  | cons x xs ih =>
    have h1 := from_framed x (joined xs ++ r) (h x (List.mem_cons_self ..))
    have h2 := ih (fun l hl => h l (List.mem_cons_of_mem _ hl))
    rw [← List.append_assoc] at h1
    refine ⟨by rw [joined, h1.1, h2.1]; rfl, ?_⟩
    rw [joined, h1.2, h2.2]
    simp only [List.length_append]
    have : (headOf x.length).length = 4 := rfl
    omega

theorem byteAt_take (L : List UInt8) (t i : Nat) (h : i < t) : byteAt (L.take t) i = byteAt L i := by
  unfold byteAt
  rw [List.getD_eq_getElem?_getD, List.getD_eq_getElem?_getD, List.getElem?_take_of_lt h]
theorem lenAt_take (L : List UInt8) (t : Nat) (h : 4 ≤ t) : lenAt (L.take t) 0 = lenAt L 0 := by
  unfold lenAt
  rw [byteAt_take L t 0 (by omega), byteAt_take L t (0 + 1) (by omega), byteAt_take L t (0 + 2) (by omega), byteAt_take L t (0 + 3) (by omega)]

/-- Less than a frame is none. -/
theorem torn_none (x more : List UInt8) (t : Nat) (hx : x.length ≤ 1024) (ht : t < 4 + x.length) : ¬ FrameAt ((headOf x.length ++ x ++ more).take t) 0 := by
  intro h
  unfold FrameAt at h
  by_cases h4 : 4 ≤ t
  · rw [lenAt_take _ _ h4, List.append_assoc, lenAt_head _ hx] at h
    have := List.length_take_le t (headOf x.length ++ (x ++ more))
    omega
  · have := List.length_take_le t (headOf x.length ++ x ++ more)
    omega

theorem joined_take_succ (ls : List (List UInt8)) (k : Nat) (l : List UInt8) (h : ls[k]? = some l) : joined (ls.drop k) = headOf l.length ++ l ++ joined (ls.drop (k + 1)) := by
  have hk : k < ls.length := (List.getElem?_eq_some_iff.1 h).1
  rw [List.drop_eq_getElem_cons hk]
  have : ls[k] = l := (List.getElem?_eq_some_iff.1 h).2
  rw [this]; rfl

/-- Frames that are cut. -/
theorem from_cut (ls : List (List UInt8)) (c k : Nat) (h : ∀ l ∈ ls, l.length ≤ 1024) (h1 : (joined (ls.take k)).length ≤ c) (h3 : k < ls.length → c < (joined (ls.take (k + 1))).length) :
    loadsFrom ((joined ls).take c) 0 = ls.take k ∧ endFrom ((joined ls).take c) 0 = (joined (ls.take k)).length := by
  have e : joined ls = joined (ls.take k) ++ joined (ls.drop k) := by rw [← joined_append, List.take_append_drop]
  have e2 : (joined ls).take c = joined (ls.take k) ++ (joined (ls.drop k)).take (c - (joined (ls.take k)).length) := by
    rw [e, List.take_append, List.take_of_length_le h1]
  have hr : ¬ FrameAt ((joined (ls.drop k)).take (c - (joined (ls.take k)).length)) 0 := by
    rcases Nat.lt_or_ge k ls.length with hlt | hge
    · obtain ⟨l, hl⟩ : ∃ l, ls[k]? = some l := ⟨_, List.getElem?_eq_getElem hlt⟩
      rw [joined_take_succ ls k l hl]
      refine torn_none l _ _ (h l (List.mem_of_getElem? hl)) ?_
      have h4 := h3 hlt
      rw [List.take_add_one, hl, joined_append] at h4
      simp only [Option.toList_some, joined, List.length_append, List.append_nil] at h4
      have : (headOf l.length).length = 4 := rfl
      omega
    · have : ls.drop k = [] := List.drop_eq_nil_of_le hge
      rw [this]
      unfold FrameAt
      simp [joined]
  have hm : ∀ l ∈ ls.take k, l.length ≤ 1024 := fun l hl => h l (List.mem_of_mem_take hl)
  have := from_joined_app (ls.take k) ((joined (ls.drop k)).take (c - (joined (ls.take k)).length)) hm
  rw [e2, this.1, this.2, loadsFrom_none _ _ hr, endFrom_none _ _ hr]
  simp

theorem joined_take_mono (ls : List (List UInt8)) (k : Nat) : (joined (ls.take k)).length ≤ (joined ls).length := by
  have e : joined ls = joined (ls.take k) ++ joined (ls.drop k) := by rw [← joined_append, List.take_append_drop]
  rw [e, List.length_append]; omega

/-- The place at which frames are cut. -/
theorem cut_place (x : Int) (N : Nat) : 0 ≤ (x.tmod ((N : Int) + 1) + (N : Int) + 1) % ((N : Int) + 1) ∧ (x.tmod ((N : Int) + 1) + (N : Int) + 1) % ((N : Int) + 1) ≤ N := by
  have h1 := Int.emod_nonneg (x.tmod ((N : Int) + 1) + (N : Int) + 1) (show ((N : Int) + 1) ≠ 0 by omega)
  have h2 := Int.emod_lt_of_pos (x.tmod ((N : Int) + 1) + (N : Int) + 1) (show 0 < ((N : Int) + 1) by omega)
  omega
theorem tmod_range (x : Int) (N : Nat) : -((N : Int) + 1) < x.tmod ((N : Int) + 1) ∧ x.tmod ((N : Int) + 1) < (N : Int) + 1 := by
  have h1 := Int.tmod_lt_of_pos x (show 0 < ((N : Int) + 1) by omega)
  have h2 := Int.lt_tmod_of_pos x (show 0 < ((N : Int) + 1) by omega)
  omega
end Go.Proofs.Ytlojphajdefkdaa
