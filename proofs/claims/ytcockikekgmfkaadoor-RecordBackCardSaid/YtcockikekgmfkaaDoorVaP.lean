/-
  Numbers as bytes, plainly: no program in sight.
-/
import Derived.Test.YtcockikekgmfkaaDoorWords
import Derived.Test.YtcockikekgmfkaaDoorBits
namespace Go.Proofs.YtcockikekgmfkaaDoor
open Go.RowKit

/-- The greatest number. -/
def maxNum : Nat := 1099511627776

/-- The bytes of a number, 7 bits each, the lowest first. -/
def encF : Nat → Nat → List UInt8
  | 0, n => [UInt8.ofNat n]
  | f + 1, n => if n < 128 then [UInt8.ofNat n] else UInt8.ofNat (n % 128 + 128) :: encF f (n / 128)
def enc (n : Nat) : List UInt8 := encF 8 n

theorem encF_small (f n : Nat) (h : n < 128) : encF f n = [UInt8.ofNat n] := by
  cases f with
  | zero => rfl
  | succ f => simp [encF, h]
theorem encF_big (f n : Nat) (h : 128 ≤ n) : encF (f + 1) n = UInt8.ofNat (n % 128 + 128) :: encF f (n / 128) := by
  rw [encF, if_neg (by omega)]
theorem encF_more : ∀ (f g n : Nat), n < 128 ^ (f + 1) → f ≤ g → encF g n = encF f n
  | 0, g, n, h, _ => by rw [encF_small g n (by simpa using h), encF_small 0 n (by simpa using h)]
  | f + 1, 0, n, _, hg => by omega
  | f + 1, g + 1, n, h, hg => by
    by_cases hn : n < 128
    · rw [encF_small _ _ hn, encF_small _ _ hn]
    · rw [encF_big _ _ (by omega), encF_big _ _ (by omega), encF_more f g (n / 128) (by
        rw [Nat.pow_succ] at h
        exact Nat.div_lt_of_lt_mul (by rw [Nat.mul_comm]; exact h)) (by omega)]
theorem enc_small (n : Nat) (h : n < 128) : enc n = [UInt8.ofNat n] := encF_small 8 n h
theorem enc_big (n : Nat) (h : 128 ≤ n) (hm : n ≤ maxNum) : enc n = UInt8.ofNat (n % 128 + 128) :: enc (n / 128) := by
  unfold enc
  rw [encF_big 7 n h, encF_more 7 8 (n / 128) (by unfold maxNum at hm; have : (128 : Nat) ^ (7 + 1) = 72057594037927936 := by decide
                                                  rw [this]; omega) (by omega)]

/-- How many bytes a number has. -/
def encLen (n : Nat) : Nat := (enc n).length
theorem encLen_small (n : Nat) (h : n < 128) : encLen n = 1 := by unfold encLen; rw [enc_small n h]; rfl
theorem encLen_big (n : Nat) (h : 128 ≤ n) (hm : n ≤ maxNum) : encLen n = encLen (n / 128) + 1 := by
  unfold encLen; rw [enc_big n h hm]; rfl
theorem encF_len : ∀ f n, 1 ≤ (encF f n).length ∧ (encF f n).length ≤ f + 1
  | 0, n => by simp [encF]
  | f + 1, n => by
    by_cases h : n < 128
    · rw [encF_small _ _ h]; simp
    · rw [encF_big _ _ (by omega)]
      have := encF_len f (n / 128)
      simp only [List.length_cons]; omega
theorem encLen_pos (n : Nat) : 1 ≤ encLen n := (encF_len 8 n).1
theorem encLen_le (n : Nat) (h : n ≤ maxNum) : encLen n ≤ 6 := by
  have h1 : enc n = encF 5 n := encF_more 5 8 n (by unfold maxNum at h; have : (128 : Nat) ^ (5 + 1) = 4398046511104 := by decide
                                                    rw [this]; omega) (by omega)
  unfold encLen; rw [h1]; exact (encF_len 5 n).2

/-- What bytes say: the number, and how many bytes it has. i: how many bytes have been read; acc: their number. -/
def decF : Nat → Nat → Nat → List UInt8 → Option (Nat × Nat)
  | 0, _, _, _ => none
  | _ + 1, _, _, [] => none
  | f + 1, i, acc, c :: r =>
    if 128 ≤ c.toNat then decF f (i + 1) (acc + c.toNat % 128 * 128 ^ i) r
    else if (c.toNat = 0 ∧ 0 < i) ∨ maxNum < acc + c.toNat % 128 * 128 ^ i then none
    else some (acc + c.toNat % 128 * 128 ^ i, i + 1)
def dec (l : List UInt8) : Option (Nat × Nat) := decF 6 0 0 l

theorem toNat_low (n : Nat) (h : n < 128) : (UInt8.ofNat n).toNat = n := by simp; omega
theorem toNat_high (n : Nat) : (UInt8.ofNat (n % 128 + 128)).toNat = n % 128 + 128 := by simp; omega

theorem cellsB_high (m : Nat) : cellsB [UInt8.ofNat (m % 128 + 128)] = [Value.int .u8 ((m : Int) % 128 + 128)] := by
  unfold cellsB
  rw [List.map_cons, toNat_high]
  simp
theorem cellsB_low (m : Nat) (h : m < 128) : cellsB [UInt8.ofNat m] = [Value.int .u8 (m : Int)] := by
  unfold cellsB
  rw [List.map_cons, toNat_low m h]
  simp

/-- What was written is read, whatever stands behind it. -/
theorem decF_enc : ∀ (f i acc n : Nat) (r : List UInt8), acc + n * 128 ^ i ≤ maxNum → n < 128 ^ f → (n = 0 → i = 0) → 0 < f →
    decF f i acc (encF 8 n ++ r) = some (acc + n * 128 ^ i, i + (encF 8 n).length)
  | 0, _, _, _, _, _, _, _, hf => absurd hf (by omega)
  | f + 1, i, acc, n, r, hm, hn, hz, _ => by
    by_cases h : n < 128
    · rw [encF_small _ _ h, List.cons_append, List.nil_append, decF, toNat_low n h, if_neg (by omega), Nat.mod_eq_of_lt h, if_neg (by omega)]
      rfl
    · have hp : 0 < 128 ^ i := Nat.pow_pos (by omega)
      have hnm : n ≤ maxNum := by
        have : n ≤ n * 128 ^ i := Nat.le_mul_of_pos_right n hp
        omega
      have hb : encF 8 n = UInt8.ofNat (n % 128 + 128) :: encF 8 (n / 128) := enc_big n (by omega) hnm
      have e1 : n * 128 ^ i = n % 128 * 128 ^ i + n / 128 * 128 ^ (i + 1) := by
        rw [Nat.pow_succ, Nat.mul_comm (128 ^ i) 128, ← Nat.mul_assoc, ← Nat.add_mul]
        congr 1
        omega
      rw [hb, List.cons_append, decF, toNat_high, if_pos (by omega), Nat.add_mod_right, Nat.mod_mod]
      rw [decF_enc f (i + 1) _ (n / 128) r (by omega) (by
        rw [Nat.pow_succ] at hn
        exact Nat.div_lt_of_lt_mul (by rw [Nat.mul_comm]; exact hn)) (by omega) (by
        rcases Nat.eq_zero_or_pos f with h0 | h0
        · subst h0; simp at hn; omega
        · exact h0)]
      rw [List.length_cons]
      congr 1
      ext1
      · show acc + n % 128 * 128 ^ i + n / 128 * 128 ^ (i + 1) = acc + n * 128 ^ i
        omega
      · show i + 1 + (encF 8 (n / 128)).length = i + ((encF 8 (n / 128)).length + 1)
        omega

theorem dec_enc (n : Nat) (r : List UInt8) (h : n ≤ maxNum) : dec (enc n ++ r) = some (n, encLen n) := by
  unfold dec enc encLen
  rw [decF_enc 6 0 0 n r (by omega) (by unfold maxNum at h; have : (128 : Nat) ^ 6 = 4398046511104 := by decide
                                        rw [this]; omega) (fun _ => rfl) (by omega)]
  simp [enc]

/-- What reads as a number is written as just those bytes. -/
theorem decF_only : ∀ (f i acc : Nat) (l : List UInt8) (n k : Nat), decF f i acc l = some (n, k) →
    ∃ m, n = acc + m * 128 ^ i ∧ i < k ∧ k ≤ i + f ∧ k ≤ i + l.length ∧ n ≤ maxNum ∧ (m = 0 → i = 0) ∧ l.take (k - i) = encF 8 m
  | 0, _, _, _, _, _, h => by simp [decF] at h
  | _ + 1, _, _, [], _, _, h => by simp [decF] at h
  | f + 1, i, acc, c :: r, n, k, h => by
    rw [decF] at h
    by_cases hc : 128 ≤ c.toNat
    · rw [if_pos hc] at h
      obtain ⟨m, hn, h1, h2, h3, h4, h5, h6⟩ := decF_only f (i + 1) _ r n k h
      have hcl : c.toNat < 256 := UInt8.toNat_lt c
      have hm0 : 0 < m := by
        rcases Nat.eq_zero_or_pos m with h0 | h0
        · have := h5 h0; omega
        · exact h0
      refine ⟨c.toNat % 128 + m * 128, ?_, by omega, by omega, by rw [List.length_cons]; omega, h4, by omega, ?_⟩
      · rw [hn, Nat.add_mul, Nat.pow_succ, Nat.mul_comm (128 ^ i) 128, ← Nat.mul_assoc]; omega
      · have hp : 0 < 128 ^ i := Nat.pow_pos (by omega)
        have hle : c.toNat % 128 + m * 128 ≤ maxNum := by
          have e : n = acc + (c.toNat % 128 + m * 128) * 128 ^ i := by
            rw [hn, Nat.add_mul, Nat.pow_succ, Nat.mul_comm (128 ^ i) 128, ← Nat.mul_assoc]; omega
          have : c.toNat % 128 + m * 128 ≤ (c.toNat % 128 + m * 128) * 128 ^ i := Nat.le_mul_of_pos_right _ hp
          omega
        have hb := enc_big (c.toNat % 128 + m * 128) (by omega) hle
        unfold enc at hb
        rw [hb, show k - i = (k - (i + 1)) + 1 by omega, List.take_succ_cons, h6]
        congr 1
        · rw [show (c.toNat % 128 + m * 128) % 128 + 128 = c.toNat by omega]
          exact (UInt8.ofNat_toNat).symm
        · rw [show (c.toNat % 128 + m * 128) / 128 = m by omega]
    · rw [if_neg hc] at h
      split at h
      · cases h
      · rename_i hno
        simp only [Option.some.injEq, Prod.mk.injEq] at h
        obtain ⟨rfl, rfl⟩ := h
        have hlow : c.toNat % 128 = c.toNat := by omega
        refine ⟨c.toNat, by rw [hlow], by omega, by omega, by rw [List.length_cons]; omega, by omega, by omega, ?_⟩
        rw [show i + 1 - i = 1 by omega, encF_small 8 c.toNat (by omega)]
        simp

theorem dec_only (l : List UInt8) (n k : Nat) (h : dec l = some (n, k)) : n ≤ maxNum ∧ 0 < k ∧ k ≤ 6 ∧ k ≤ l.length ∧ l.take k = enc n := by
  obtain ⟨m, hn, h1, h2, h3, h4, _, h6⟩ := decF_only 6 0 0 l n k h
  have : n = m := by simpa using hn
  subst this
  exact ⟨h4, h1, by omega, by omega, by unfold enc; simpa using h6⟩

/-- A number's next seven bits put to the lower ones. -/
theorem or_acc (acc x i : Nat) (hacc : acc < 128 ^ i) (hx : x < 128) (hi : i ≤ 5) : bits .or .i64 (acc : Int) (wrap64 ((x : Int) * 2 ^ (7 * i))) = ((acc + x * 128 ^ i : Nat) : Int) := by
  have hp : (2 : Int) ^ (7 * i) = ((128 ^ i : Nat) : Int) := by rw [Int.pow_mul]; norm_cast
  have h5 : 128 ^ i ≤ 128 ^ 5 := Nat.pow_le_pow_right (by omega) hi
  have e5 : (128 : Nat) ^ 5 = 34359738368 := by decide
  have hm : x * 128 ^ i ≤ 127 * 128 ^ i := Nat.mul_le_mul_right _ (by omega)
  have hmod : ((x : Int) * ((128 ^ i : Nat) : Int)) % ((128 ^ i : Nat) : Int) = 0 := Int.mul_emod_left _ _
  have hcast : (x : Int) * ((128 ^ i : Nat) : Int) = ((x * 128 ^ i : Nat) : Int) := by push_cast; rfl
  rw [hp, IntWalk.wrap64_in _ ⟨by rw [hcast]; omega, by rw [hcast]; omega⟩]
  rw [or_i64 (7 * i) _ _ (by rw [hcast]; omega) (by rw [hp]; exact hmod) (by rw [hcast]; omega) (by omega) (by rw [hp]; omega) (by omega), hcast]
  push_cast
  rfl
end Go.Proofs.YtcockikekgmfkaaDoor
