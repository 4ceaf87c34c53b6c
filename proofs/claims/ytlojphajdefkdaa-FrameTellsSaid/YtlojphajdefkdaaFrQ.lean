/-
  Plain laws on frames: what stands behind a frame is read as if it were not there; loads and what is torn make up all bytes.
-/
import Derived.Test.YtlojphajdefkdaaFrC
import Derived.Test.YtlojphajdefkdaaFrP
namespace Go.Proofs.Ytlojphajdefkdaa

def endFrom (L : List UInt8) (i : Nat) : Nat := endOf L i (spans L i)
def loadsFrom (L : List UInt8) (i : Nat) : List (List UInt8) := (spans L i).map (loadOf L)

theorem endOf_cons (L : List UInt8) (i : Nat) (p : Span L) (ps : List (Span L)) : endOf L i (p :: ps) = endOf L p.1.2 ps := by
  cases ps with
  | nil => rfl
  | cons q qs => simp [endOf, List.getLast?_cons]

theorem endFrom_frame (L : List UInt8) (i : Nat) (h : FrameAt L i) : endFrom L i = endFrom L (i + 4 + lenAt L i) := by
  unfold endFrom
  rw [spans_frame L i h, endOf_cons]
theorem endFrom_none (L : List UInt8) (i : Nat) (h : ¬ FrameAt L i) : endFrom L i = i := by
  unfold endFrom
  rw [spans_none L i h, endOf_nil]
theorem loadsFrom_frame (L : List UInt8) (i : Nat) (h : FrameAt L i) : loadsFrom L i = (L.drop (i + 4)).take (lenAt L i) :: loadsFrom L (i + 4 + lenAt L i) := by
  unfold loadsFrom
  rw [spans_frame L i h]
  simp [loadOf]
theorem loadsFrom_none (L : List UInt8) (i : Nat) (h : ¬ FrameAt L i) : loadsFrom L i = [] := by
  unfold loadsFrom
  rw [spans_none L i h]; rfl
theorem length_loadsFrom (L : List UInt8) (i : Nat) : (loadsFrom L i).length = (spans L i).length := by simp [loadsFrom]

/-- Induction along the frames. -/
theorem frames_ind (L : List UInt8) (P : Nat → Prop) (h0 : ∀ i, ¬ FrameAt L i → P i) (h1 : ∀ i, FrameAt L i → P (i + 4 + lenAt L i) → P i) : ∀ i, P i := by
  have key : ∀ (m i : Nat), L.length - i ≤ m → P i := by
    intro m
    induction m with
    | zero => intro i hi; exact h0 i (fun h => by unfold FrameAt at h; omega)
    | succ m ih =>
      intro i hi
      by_cases h : FrameAt L i
      · exact h1 i h (ih _ (by unfold FrameAt at h; omega))
      · exact h0 i h
  exact fun i => key _ i (Nat.le_refl _)

theorem endFrom_le (L : List UInt8) (i : Nat) (hi : i ≤ L.length) : i ≤ endFrom L i ∧ endFrom L i ≤ L.length := by
  revert hi
  refine frames_ind L (fun i => i ≤ L.length → i ≤ endFrom L i ∧ endFrom L i ≤ L.length) (fun i h hi => ?_) (fun i h ih hi => ?_) i
  · rw [endFrom_none L i h]; omega
  · rw [endFrom_frame L i h]
    have h' := h
    unfold FrameAt at h'
    have := ih (by omega)
    omega

/-- How many bytes some loads have with their lengths. -/
def sumLen : List (List UInt8) → Nat
  | [] => 0
  | l :: ls => 4 + l.length + sumLen ls
theorem sumLen_append (a b : List (List UInt8)) : sumLen (a ++ b) = sumLen a + sumLen b := by
  induction a with
  | nil => simp [sumLen]
  | cons x xs ih => simp only [List.cons_append, sumLen, ih]; omega

theorem endFrom_sum (L : List UInt8) (i : Nat) : endFrom L i = i + sumLen (loadsFrom L i) := by
  refine frames_ind L (fun i => endFrom L i = i + sumLen (loadsFrom L i)) (fun i h => ?_) (fun i h ih => ?_) i
  · rw [endFrom_none L i h, loadsFrom_none L i h]; rfl
  · rw [endFrom_frame L i h, loadsFrom_frame L i h, ih]
    unfold FrameAt at h
    simp only [sumLen, List.length_take, List.length_drop]
    omega

theorem byteAt_append (pre L : List UInt8) (i : Nat) : byteAt (pre ++ L) (pre.length + i) = byteAt L i := by
  unfold byteAt
  rw [List.getD_eq_getElem?_getD, List.getD_eq_getElem?_getD, List.getElem?_append_right (by omega), Nat.add_sub_cancel_left]
theorem lenAt_append (pre L : List UInt8) (i : Nat) : lenAt (pre ++ L) (pre.length + i) = lenAt L i := by
  unfold lenAt
  rw [byteAt_append, Nat.add_assoc pre.length i 1, Nat.add_assoc pre.length i 2, Nat.add_assoc pre.length i 3, byteAt_append, byteAt_append, byteAt_append]
theorem frameAt_append (pre L : List UInt8) (i : Nat) : FrameAt (pre ++ L) (pre.length + i) ↔ FrameAt L i := by
  unfold FrameAt
  rw [lenAt_append, List.length_append]
  omega

theorem from_append (pre L : List UInt8) (i : Nat) : loadsFrom (pre ++ L) (pre.length + i) = loadsFrom L i ∧ endFrom (pre ++ L) (pre.length + i) = pre.length + endFrom L i := by
  refine frames_ind L (fun i => loadsFrom (pre ++ L) (pre.length + i) = loadsFrom L i ∧ endFrom (pre ++ L) (pre.length + i) = pre.length + endFrom L i) (fun i h => ?_) (fun i h ih => ?_) i
  · have h' : ¬ FrameAt (pre ++ L) (pre.length + i) := fun k => h ((frameAt_append pre L i).1 k)
    rw [loadsFrom_none _ _ h', loadsFrom_none _ _ h, endFrom_none _ _ h', endFrom_none _ _ h]
    exact ⟨rfl, rfl⟩
  · have h' : FrameAt (pre ++ L) (pre.length + i) := (frameAt_append pre L i).2 h
    rw [loadsFrom_frame _ _ h', loadsFrom_frame _ _ h, endFrom_frame _ _ h', endFrom_frame _ _ h, lenAt_append]
    rw [show pre.length + i + 4 + lenAt L i = pre.length + (i + 4 + lenAt L i) by omega, ih.1, ih.2]
    refine ⟨?_, rfl⟩
    congr 2
    rw [show pre.length + i + 4 = pre.length + (i + 4) by omega, List.drop_append]
    simp

theorem lenAt_head (n : Nat) (h : n ≤ 1024) (L : List UInt8) : lenAt (headOf n ++ L) 0 = n := by
  have h1 : (UInt8.ofNat (n % 256)).toNat = n % 256 := by simp
  have h2 : (UInt8.ofNat (n / 256)).toNat = n / 256 := by simp; omega
  simp only [lenAt, byteAt, headOf, List.cons_append, List.nil_append, List.getD_cons_zero, List.getD_cons_succ, Nat.zero_add]
  rw [h1, h2]
  simp
  omega

/-- A frame ahead of some bytes. -/
theorem from_framed (l b : List UInt8) (h : l.length ≤ 1024) :
    loadsFrom (headOf l.length ++ l ++ b) 0 = l :: loadsFrom b 0 ∧ endFrom (headOf l.length ++ l ++ b) 0 = 4 + l.length + endFrom b 0 := by
  have hh : (headOf l.length).length = 4 := rfl
  have hl : lenAt (headOf l.length ++ l ++ b) 0 = l.length := by rw [List.append_assoc]; exact lenAt_head _ h _
  have hf : FrameAt (headOf l.length ++ l ++ b) 0 := by
    unfold FrameAt
    rw [hl]
    simp only [List.length_append, hh]
    omega
  rw [loadsFrom_frame _ _ hf, endFrom_frame _ _ hf, hl]
  have ha := from_append (headOf l.length ++ l) b 0
  rw [show (headOf l.length ++ l).length + 0 = 0 + 4 + l.length by simp [hh]] at ha
  refine ⟨?_, ?_⟩
  · rw [ha.1]
    congr 1
    rw [List.append_assoc, List.drop_append, List.drop_eq_nil_of_le (by omega)]
    simp [hh]
  · rw [ha.2]
    simp only [List.length_append, hh]
end Go.Proofs.Ytlojphajdefkdaa
