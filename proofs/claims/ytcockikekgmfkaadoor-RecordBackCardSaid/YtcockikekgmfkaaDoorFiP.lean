/-
  A reader, plainly: what each reading tells, and where the reader is behind it. No program in sight.
-/
import Derived.Test.YtcockikekgmfkaaDoorCd
namespace Go.Proofs.YtcockikekgmfkaaDoor
open Go.RowKit

/-- A number from lo to hi: the number, the place, whether the reader is stopped. -/
def rdNum (l : List UInt8) (i : Nat) (bad : Bool) (lo hi : Int) : Int × Nat × Bool :=
  if bad = true then (0, i, true) else
  match dec (l.drop i) with
  | some (n, k) => if lo ≤ (n : Int) ∧ (n : Int) ≤ hi then ((n : Int), i + k, false) else (0, i, true)
  | none => (0, i, true)
/-- A text of at most so many bytes. -/
def rdTxt (l : List UInt8) (i : Nat) (bad : Bool) (most : Int) : List UInt8 × Nat × Bool :=
  if bad = true then ([], i, true) else
  match dec (l.drop i) with
  | some (n, k) => if (n : Int) ≤ most ∧ n ≤ (l.drop (i + k)).length then ((l.drop (i + k)).take n, i + k + n, false) else ([], i, true)
  | none => ([], i, true)
/-- A flag. -/
def rdFlag (l : List UInt8) (i : Nat) (bad : Bool) : Bool × Nat × Bool :=
  if bad = true then (false, i, true) else
  match l[i]? with
  | some c => if c = 0 then (false, i + 1, false) else if c = 1 then (true, i + 1, false) else (false, i, true)
  | none => (false, i, true)

theorem decF_take : ∀ (f i acc m : Nat) (l : List UInt8), f ≤ m → decF f i acc (l.take m) = decF f i acc l
  | 0, _, _, _, _, _ => by simp [decF]
  | f + 1, i, acc, m, l, h => by
    match m, h with
    | m + 1, h =>
      cases l with
      | nil => rfl
      | cons c l =>
        rw [List.take_succ_cons, decF, decF]
        simp only [decF_take f (i + 1) _ m l (by omega)]
theorem dec_take (l : List UInt8) : dec (l.take 6) = dec l := decF_take 6 0 0 6 l (Nat.le_refl _)

theorem dec_le {l : List UInt8} {n k : Nat} (h : dec l = some (n, k)) : k ≤ l.length ∧ n ≤ maxNum ∧ k ≤ 6 := by
  obtain ⟨h1, h2, h3, h4, h5⟩ := dec_only l n k h
  exact ⟨h4, h1, h3⟩
theorem rdNum_le {l : List UInt8} {i : Nat} (bad : Bool) (lo hi : Int) (h : i ≤ l.length) : (rdNum l i bad lo hi).2.1 ≤ l.length := by
  unfold rdNum
  split
  · exact h
  · split
    · rename_i n k hd
      split
      · have := (dec_le hd).1
        rw [List.length_drop] at this
        show i + k ≤ _
        omega
      · exact h
    · exact h
theorem rdTxt_le {l : List UInt8} {i : Nat} (bad : Bool) (most : Int) (h : i ≤ l.length) : (rdTxt l i bad most).2.1 ≤ l.length := by
  unfold rdTxt
  split
  · exact h
  · split
    · rename_i n k hd
      split
      · rename_i hc
        have h2 := (dec_le hd).1
        have h3 := hc.2
        rw [List.length_drop] at h2 h3
        show i + k + n ≤ _
        omega
      · exact h
    · exact h
theorem rdFlag_le {l : List UInt8} {i : Nat} (bad : Bool) (h : i ≤ l.length) : (rdFlag l i bad).2.1 ≤ l.length := by
  unfold rdFlag
  split
  · exact h
  · split
    · rename_i c hc
      have := (List.getElem?_eq_some_iff.1 hc).1
      split
      · show i + 1 ≤ _; omega
      · split
        · show i + 1 ≤ _; omega
        · exact h
    · exact h
end Go.Proofs.YtcockikekgmfkaaDoor
