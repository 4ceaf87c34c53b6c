/-
  The frames with which some bytes begin, plainly: no program in sight.
-/
import Derived.Test.YtlojphajdefkdaaWords
import Derived.Test.YtlojphajdefkdaaBits
namespace Go.Proofs.Ytlojphajdefkdaa

/-- The byte at a place, as a number. -/
def byteAt (L : List UInt8) (i : Nat) : Nat := (L.getD i 0).toNat
theorem byteAt_lt (L : List UInt8) (i : Nat) : byteAt L i < 256 := by unfold byteAt; exact UInt8.toNat_lt _
/-- The length that stands at a place. -/
def lenAt (L : List UInt8) (i : Nat) : Nat := byteAt L i + 256 * byteAt L (i + 1) + 65536 * byteAt L (i + 2) + 16777216 * byteAt L (i + 3)
theorem lenAt_le4 (L : List UInt8) (i : Nat) : le4 (byteAt L i) (byteAt L (i + 1)) (byteAt L (i + 2)) (byteAt L (i + 3)) = lenAt L i := by
  unfold le4 lenAt; omega
theorem lenAt_lt (L : List UInt8) (i : Nat) : lenAt L i < 4294967296 := by
  unfold lenAt
  have := byteAt_lt L i; have := byteAt_lt L (i + 1); have := byteAt_lt L (i + 2); have := byteAt_lt L (i + 3)
  omega

/-- A whole frame begins at a place. -/
def FrameAt (L : List UInt8) (i : Nat) : Prop := i + 4 ≤ L.length ∧ lenAt L i ≤ 1024 ∧ i + 4 + lenAt L i ≤ L.length
instance (L : List UInt8) (i : Nat) : Decidable (FrameAt L i) := by unfold FrameAt; infer_instance

/-- Where a load lies: its first byte, the byte behind its last. -/
abbrev Span (L : List UInt8) : Type := { p : Nat × Nat // p.1 ≤ p.2 ∧ p.2 ≤ L.length }

def spansF (L : List UInt8) : Nat → Nat → List (Span L)
  | 0, _ => []
  | f + 1, i => if h : FrameAt L i then ⟨(i + 4, i + 4 + lenAt L i), by unfold FrameAt at h; simp; omega⟩ :: spansF L f (i + 4 + lenAt L i) else []
/-- The loads from a place on. -/
def spans (L : List UInt8) (i : Nat) : List (Span L) := spansF L (L.length + 1 - i) i

theorem spansF_more (L : List UInt8) : ∀ (f i : Nat), L.length + 1 - i ≤ f → spansF L f i = spansF L (L.length + 1 - i) i
  | 0, i, h => by have : L.length + 1 - i = 0 := by omega
                  rw [this]
  | f + 1, i, h => by
    by_cases hf : FrameAt L i
    · have h1 := hf
      unfold FrameAt at h1
      obtain ⟨k, hk⟩ : ∃ k, L.length + 1 - i = k + 1 := ⟨L.length - i, by omega⟩
      rw [hk]
      simp only [spansF, dif_pos hf]
      rw [spansF_more L f _ (by omega), spansF_more L k _ (by omega)]
    · simp only [spansF, dif_neg hf]
      cases hk : L.length + 1 - i with
      | zero => rfl
      | succ k => simp only [spansF, dif_neg hf]

theorem spans_frame (L : List UInt8) (i : Nat) (h : FrameAt L i) :
    spans L i = ⟨(i + 4, i + 4 + lenAt L i), by unfold FrameAt at h; simp; omega⟩ :: spans L (i + 4 + lenAt L i) := by
  have h1 := h
  unfold FrameAt at h1
  unfold spans
  obtain ⟨k, hk⟩ : ∃ k, L.length + 1 - i = k + 1 := ⟨L.length - i, by omega⟩
  rw [hk]
  simp only [spansF, dif_pos h]
  rw [spansF_more L k _ (by omega)]

theorem spans_none (L : List UInt8) (i : Nat) (h : ¬ FrameAt L i) : spans L i = [] := by
  unfold spans
  cases hk : L.length + 1 - i with
  | zero => rfl
  | succ k => simp only [spansF, dif_neg h]

/-- A load's bytes. -/
def loadOf (L : List UInt8) (p : Span L) : List UInt8 := (L.drop p.1.1).take (p.1.2 - p.1.1)
theorem length_loadOf (L : List UInt8) (p : Span L) : (loadOf L p).length = p.1.2 - p.1.1 := by
  have := p.2
  simp [loadOf]; omega
/-- Where the last of some loads ends. -/
def endOf (L : List UInt8) (i : Nat) (ps : List (Span L)) : Nat := (ps.getLast?.map (·.1.2)).getD i
theorem endOf_snoc (L : List UInt8) (i : Nat) (ps : List (Span L)) (p : Span L) : endOf L i (ps ++ [p]) = p.1.2 := by simp [endOf]
theorem endOf_nil (L : List UInt8) (i : Nat) : endOf L i [] = i := rfl

end Go.Proofs.Ytlojphajdefkdaa
