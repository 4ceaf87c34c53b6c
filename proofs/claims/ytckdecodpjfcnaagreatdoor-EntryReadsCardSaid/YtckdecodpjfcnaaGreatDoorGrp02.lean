/-
  A reader, plainly: what each reading tells, and where the reader is behind it. No program in sight.
  Plain facts on Go's bit operations at int and byte: or of two numbers whose bits lie apart is their sum; and with 127 is the rest by 128.
  Numbers as bytes, plainly: no program in sight.
  Ways of writing that are read back, plainly: a number, a text, a flag, one behind the other, lists. No program in sight.
-/
import Derived.WalkKit
import Derived.LaidEql
import Derived.Test.YtckdecodpjfcnaaGreatDoorGrp01
set_option linter.unusedVariables false
set_option linter.unusedSimpArgs false
namespace Go.Proofs.YtckdecodpjfcnaaGreatDoor

theorem wraps_i64 (n : Int) (h0 : 0 ≤ n) (h1 : n < 2 ^ 62) : IntKind.i64.wrap n = n := by rw [IntKind.wrap_i64]; omega

theorem bits_or_comm (k : IntKind) (x y : Int) : bits .or k x y = bits .or k y x := by
  simp only [bits, BitVec.or_comm]

/-- The lower bits are x's, the higher ones y's. -/
theorem or_i64 (i : Nat) (x y : Int) (hy0 : 0 ≤ y) (hy : y % 2 ^ i = 0) (hy1 : y < 2 ^ 62) (hx0 : 0 ≤ x) (hx : x < 2 ^ i) (hx1 : x < 2 ^ 62) :
    bits .or .i64 x y = x + y := by
  rw [bits_or_comm, bits_join .i64 62 (by decide) wraps_i64 i y x hy0 hy hy1 hx0 hx hx1]; omega

theorem and_i64_127 (x : Int) (h0 : 0 ≤ x) (h1 : x < 2 ^ 62) : bits .and .i64 x 127 = x % 128 :=
  bits_mask .i64 62 (by decide) wraps_i64 7 (by decide) x h0 h1

theorem and_u8_127 (x : Int) (h0 : 0 ≤ x) (h1 : x < 256) : bits .and .u8 x 127 = x % 128 :=
  bits_mask .u8 8 (by decide) wraps_u8 7 (by decide) x h0 h1

theorem or_i64_128 (x : Int) (h0 : 0 ≤ x) (h1 : x < 128) : bits .or .i64 x 128 = x + 128 :=
  or_i64 7 x 128 (by decide) (by decide) (by decide) h0 h1 (by omega)

/-- The highest bit of a byte. -/
theorem and_u8_128 (x : Int) (h0 : 0 ≤ x) (h1 : x < 256) : bits .and .u8 x 128 = if x < 128 then 0 else 128 := by
  obtain ⟨a, rfl⟩ := Int.eq_ofNat_of_zero_le h0
  have ha : a < 256 := by omega
  rw [show (128 : Int) = ((128 : Nat) : Int) from rfl, u8_and_nat a 128 ha (by decide)]
  have : ∀ a : Fin 256, ((a.val &&& 128 : Nat) : Int) = if (a.val : Int) < ((128 : Nat) : Int) then 0 else ((128 : Nat) : Int) := by decide +kernel
  exact this ⟨a, ha⟩

/-- Four bytes, the lowest first, put together by or. -/
def le4 (a b c d : Int) : Int := a + 256 * b + 65536 * c + 16777216 * d

theorem or_le4 (a b c d : Int) (ha : 0 ≤ a) (ha' : a < 256) (hb : 0 ≤ b) (hb' : b < 256) (hc : 0 ≤ c) (hc' : c < 256) (hd : 0 ≤ d) (hd' : d < 256) :
    bits .or .i64 (bits .or .i64 (bits .or .i64 (bits .or .i64 0 a) (b * 256)) (c * 65536)) (d * 16777216) = le4 a b c d := by
  rw [or_i64 0 0 a (by omega) (by omega) (by omega) (by omega) (by omega) (by omega)]
  rw [or_i64 8 (0 + a) (b * 256) (by omega) (by omega) (by omega) (by omega) (by omega) (by omega)]
  rw [or_i64 16 (0 + a + b * 256) (c * 65536) (by omega) (by omega) (by omega) (by omega) (by omega) (by omega)]
  rw [or_i64 24 (0 + a + b * 256 + c * 65536) (d * 16777216) (by omega) (by omega) (by omega) (by omega) (by omega) (by omega)]
  unfold le4; omega

section
variable {P : Program} (w : World)

theorem run_equalIn_iface_int (d : Nat) {ti tn : TypeId} {ms : Array (String × TypeId)} {i : TypeInfo} {k : IntKind} (a b : Int)
    (hi : P.underlying ti = some (.interface ms)) (hn : P.underlying tn = some (.int k)) (hinfo : P.info? tn = some i) (hcomp : i.comparable = true) :
    (Op.equalIn (d + 2) ti (.iface tn (.int k a)) (.iface tn (.int k b))).run P w = .ok (a == b) w := by
  simp [Op.equalIn, run_underlying hi, run_underlying hn, typeInfo, hinfo, hcomp]

/-- Two interface values of one integer type are the same if the numbers are. -/
theorem run_eql_iface_int {ti tn : TypeId} {ms : Array (String × TypeId)} {i : TypeInfo} {k : IntKind} (a b : Int)
    (hi : P.underlying ti = some (.interface ms)) (hn : P.underlying tn = some (.int k)) (hinfo : P.info? tn = some i) (hcomp : i.comparable = true) :
    (binOp .eql ti (.iface tn (.int k a)) (.iface tn (.int k b))).run P w = .ok (.bool (a == b)) w := by
  simp only [binOp]
  simp [Op.equal, Op.maxDepth, run_equalIn_iface_int w 9998 a b hi hn hinfo hcomp]
end
end Go.Proofs.YtckdecodpjfcnaaGreatDoor
namespace Go.Proofs.YtckdecodpjfcnaaGreatDoor
open Go.RowKit

/-- The greatest number. -/
def maxNum : Nat := 1099511627776

/-- The bytes of a number, 7 bits each, the lowest first. -/
def encF : Nat → Nat → List UInt8
  | 0, n => [UInt8.ofNat n]
  | f + 1, n => if n < 128 then [UInt8.ofNat n] else UInt8.ofNat (n % 128 + 128) :: encF f (n / 128)
def enc (n : Nat) : List UInt8 := encF 8 n

theorem encF_small (f n : Nat) (h : n < 128) : encF f n = [UInt8.ofNat n] := by
  cases f with
  | zero => rfl
  | succ f => simp [encF, h]
theorem encF_big (f n : Nat) (h : 128 ≤ n) : encF (f + 1) n = UInt8.ofNat (n % 128 + 128) :: encF f (n / 128) := by
  rw [encF, if_neg (by omega)]
theorem encF_more : ∀ (f g n : Nat), n < 128 ^ (f + 1) → f ≤ g → encF g n = encF f n
  | 0, g, n, h, _ => by rw [encF_small g n (by simpa using h), encF_small 0 n (by simpa using h)]
  | f + 1, 0, n, _, hg => by omega
  | f + 1, g + 1, n, h, hg => by
    by_cases hn : n < 128
    · rw [encF_small _ _ hn, encF_small _ _ hn]
    · rw [encF_big _ _ (by omega), encF_big _ _ (by omega), encF_more f g (n / 128) (by
        rw [Nat.pow_succ] at h
        exact Nat.div_lt_of_lt_mul (by rw [Nat.mul_comm]; exact h)) (by omega)]
theorem enc_small (n : Nat) (h : n < 128) : enc n = [UInt8.ofNat n] := encF_small 8 n h
theorem enc_big (n : Nat) (h : 128 ≤ n) (hm : n ≤ maxNum) : enc n = UInt8.ofNat (n % 128 + 128) :: enc (n / 128) := by
  unfold enc
  rw [encF_big 7 n h, encF_more 7 8 (n / 128) (by unfold maxNum at hm; have : (128 : Nat) ^ (7 + 1) = 72057594037927936 := by decide
                                                  rw [this]; omega) (by omega)]

/-- How many bytes a number has. -/
def encLen (n : Nat) : Nat := (enc n).length
theorem encLen_small (n : Nat) (h : n < 128) : encLen n = 1 := by unfold encLen; rw [enc_small n h]; rfl
theorem encLen_big (n : Nat) (h : 128 ≤ n) (hm : n ≤ maxNum) : encLen n = encLen (n / 128) + 1 := by
  unfold encLen; rw [enc_big n h hm]; rfl
theorem encF_len : ∀ f n, 1 ≤ (encF f n).length ∧ (encF f n).length ≤ f + 1
  | 0, n => by simp [encF]
  | f + 1, n => by
    by_cases h : n < 128
    · rw [encF_small _ _ h]; simp
    · rw [encF_big _ _ (by omega)]
      have := encF_len f (n / 128)
      simp only [List.length_cons]; omega
theorem encLen_pos (n : Nat) : 1 ≤ encLen n := (encF_len 8 n).1
theorem encLen_le (n : Nat) (h : n ≤ maxNum) : encLen n ≤ 6 := by
  have h1 : enc n = encF 5 n := encF_more 5 8 n (by unfold maxNum at h; have : (128 : Nat) ^ (5 + 1) = 4398046511104 := by decide
                                                    rw [this]; omega) (by omega)
  unfold encLen; rw [h1]; exact (encF_len 5 n).2

/-- What bytes say: the number, and how many bytes it has. i: how many bytes have been read; acc: their number. -/
def decF : Nat → Nat → Nat → List UInt8 → Option (Nat × Nat)
  | 0, _, _, _ => none
  | _ + 1, _, _, [] => none
  | f + 1, i, acc, c :: r =>
    if 128 ≤ c.toNat then decF f (i + 1) (acc + c.toNat % 128 * 128 ^ i) r
    else if (c.toNat = 0 ∧ 0 < i) ∨ maxNum < acc + c.toNat % 128 * 128 ^ i then none
    else some (acc + c.toNat % 128 * 128 ^ i, i + 1)
def dec (l : List UInt8) : Option (Nat × Nat) := decF 6 0 0 l

theorem toNat_low (n : Nat) (h : n < 128) : (UInt8.ofNat n).toNat = n := by simp; omega
theorem toNat_high (n : Nat) : (UInt8.ofNat (n % 128 + 128)).toNat = n % 128 + 128 := by simp; omega

theorem cellsB_high (m : Nat) : cellsB [UInt8.ofNat (m % 128 + 128)] = [Value.int .u8 ((m : Int) % 128 + 128)] := by
  unfold cellsB
  rw [List.map_cons, toNat_high]
  simp
theorem cellsB_low (m : Nat) (h : m < 128) : cellsB [UInt8.ofNat m] = [Value.int .u8 (m : Int)] := by
  unfold cellsB
  rw [List.map_cons, toNat_low m h]
  simp

/-- What was written is read, whatever stands behind it. -/
theorem decF_enc : ∀ (f i acc n : Nat) (r : List UInt8), acc + n * 128 ^ i ≤ maxNum → n < 128 ^ f → (n = 0 → i = 0) → 0 < f →
    decF f i acc (encF 8 n ++ r) = some (acc + n * 128 ^ i, i + (encF 8 n).length)
  | 0, _, _, _, _, _, _, _, hf => absurd hf (by omega)
  | f + 1, i, acc, n, r, hm, hn, hz, _ => by
    by_cases h : n < 128
    · rw [encF_small _ _ h, List.cons_append, List.nil_append, decF, toNat_low n h, if_neg (by omega), Nat.mod_eq_of_lt h, if_neg (by omega)]
      rfl
    · have hp : 0 < 128 ^ i := Nat.pow_pos (by omega)
      have hnm : n ≤ maxNum := by
        have : n ≤ n * 128 ^ i := Nat.le_mul_of_pos_right n hp
        omega
      have hb : encF 8 n = UInt8.ofNat (n % 128 + 128) :: encF 8 (n / 128) := enc_big n (by omega) hnm
      have e1 : n * 128 ^ i = n % 128 * 128 ^ i + n / 128 * 128 ^ (i + 1) := by
        rw [Nat.pow_succ, Nat.mul_comm (128 ^ i) 128, ← Nat.mul_assoc, ← Nat.add_mul]
        congr 1
        omega
      rw [hb, List.cons_append, decF, toNat_high, if_pos (by omega), Nat.add_mod_right, Nat.mod_mod]
      rw [decF_enc f (i + 1) _ (n / 128) r (by omega) (by
        rw [Nat.pow_succ] at hn
        exact Nat.div_lt_of_lt_mul (by rw [Nat.mul_comm]; exact hn)) (by omega) (by
        rcases Nat.eq_zero_or_pos f with h0 | h0
        · subst h0; simp at hn; omega
        · exact h0)]
      rw [List.length_cons]
      congr 1
      ext1
      · show acc + n % 128 * 128 ^ i + n / 128 * 128 ^ (i + 1) = acc + n * 128 ^ i
        omega
      · show i + 1 + (encF 8 (n / 128)).length = i + ((encF 8 (n / 128)).length + 1)
        omega

theorem dec_enc (n : Nat) (r : List UInt8) (h : n ≤ maxNum) : dec (enc n ++ r) = some (n, encLen n) := by
  unfold dec enc encLen
  rw [decF_enc 6 0 0 n r (by omega) (by unfold maxNum at h; have : (128 : Nat) ^ 6 = 4398046511104 := by decide
                                        rw [this]; omega) (fun _ => rfl) (by omega)]
  simp [enc]

/-- What reads as a number is written as just those bytes. -/
theorem decF_only : ∀ (f i acc : Nat) (l : List UInt8) (n k : Nat), decF f i acc l = some (n, k) →
    ∃ m, n = acc + m * 128 ^ i ∧ i < k ∧ k ≤ i + f ∧ k ≤ i + l.length ∧ n ≤ maxNum ∧ (m = 0 → i = 0) ∧ l.take (k - i) = encF 8 m
  | 0, _, _, _, _, _, h => by simp [decF] at h
  | _ + 1, _, _, [], _, _, h => by simp [decF] at h
  | f + 1, i, acc, c :: r, n, k, h => by
    rw [decF] at h
    by_cases hc : 128 ≤ c.toNat
    · rw [if_pos hc] at h
      obtain ⟨m, hn, h1, h2, h3, h4, h5, h6⟩ := decF_only f (i + 1) _ r n k h
      have hcl : c.toNat < 256 := UInt8.toNat_lt c
      have hm0 : 0 < m := by
        rcases Nat.eq_zero_or_pos m with h0 | h0
        · have := h5 h0; omega
        · exact h0
      refine ⟨c.toNat % 128 + m * 128, ?_, by omega, by omega, by rw [List.length_cons]; omega, h4, by omega, ?_⟩
      · rw [hn, Nat.add_mul, Nat.pow_succ, Nat.mul_comm (128 ^ i) 128, ← Nat.mul_assoc]; omega
      · have hp : 0 < 128 ^ i := Nat.pow_pos (by omega)
        have hle : c.toNat % 128 + m * 128 ≤ maxNum := by
          have e : n = acc + (c.toNat % 128 + m * 128) * 128 ^ i := by
            rw [hn, Nat.add_mul, Nat.pow_succ, Nat.mul_comm (128 ^ i) 128, ← Nat.mul_assoc]; omega
          have : c.toNat % 128 + m * 128 ≤ (c.toNat % 128 + m * 128) * 128 ^ i := Nat.le_mul_of_pos_right _ hp
          omega
        have hb := enc_big (c.toNat % 128 + m * 128) (by omega) hle
        unfold enc at hb
        rw [hb, show k - i = (k - (i + 1)) + 1 by omega, List.take_succ_cons, h6]
        congr 1
        · rw [show (c.toNat % 128 + m * 128) % 128 + 128 = c.toNat by omega]
          exact (UInt8.ofNat_toNat).symm
        · rw [show (c.toNat % 128 + m * 128) / 128 = m by omega]
    · rw [if_neg hc] at h
      split at h
      · cases h
      · rename_i hno
        simp only [Option.some.injEq, Prod.mk.injEq] at h
        obtain ⟨rfl, rfl⟩ := h
        have hlow : c.toNat % 128 = c.toNat := by omega
        refine ⟨c.toNat, by rw [hlow], by omega, by omega, by rw [List.length_cons]; omega, by omega, by omega, ?_⟩
        rw [show i + 1 - i = 1 by omega, encF_small 8 c.toNat (by omega)]
        simp

theorem dec_only (l : List UInt8) (n k : Nat) (h : dec l = some (n, k)) : n ≤ maxNum ∧ 0 < k ∧ k ≤ 6 ∧ k ≤ l.length ∧ l.take k = enc n := by
  obtain ⟨m, hn, h1, h2, h3, h4, _, h6⟩ := decF_only 6 0 0 l n k h
  have : n = m := by simpa using hn
  subst this
  exact ⟨h4, h1, by omega, by omega, by unfold enc; simpa using h6⟩

/-- A number's next seven bits put to the lower ones. -/
theorem or_acc (acc x i : Nat) (hacc : acc < 128 ^ i) (hx : x < 128) (hi : i ≤ 5) : bits .or .i64 (acc : Int) (wrap64 ((x : Int) * 2 ^ (7 * i))) = ((acc + x * 128 ^ i : Nat) : Int) := by
  have hp : (2 : Int) ^ (7 * i) = ((128 ^ i : Nat) : Int) := by rw [Int.pow_mul]; norm_cast
  have h5 : 128 ^ i ≤ 128 ^ 5 := Nat.pow_le_pow_right (by omega) hi
  have e5 : (128 : Nat) ^ 5 = 34359738368 := by decide
  have hm : x * 128 ^ i ≤ 127 * 128 ^ i := Nat.mul_le_mul_right _ (by omega)
  have hmod : ((x : Int) * ((128 ^ i : Nat) : Int)) % ((128 ^ i : Nat) : Int) = 0 := Int.mul_emod_left _ _
  have hcast : (x : Int) * ((128 ^ i : Nat) : Int) = ((x * 128 ^ i : Nat) : Int) := by push_cast; rfl
  rw [hp, IntWalk.wrap64_in _ ⟨by rw [hcast]; omega, by rw [hcast]; omega⟩]
  rw [or_i64 (7 * i) _ _ (by rw [hcast]; omega) (by rw [hp]; exact hmod) (by rw [hcast]; omega) (by omega) (by rw [hp]; omega) (by omega), hcast]
  push_cast
  rfl
end Go.Proofs.YtckdecodpjfcnaaGreatDoor
namespace Go.Proofs.YtckdecodpjfcnaaGreatDoor
open Go.RowKit

theorem dec_iff (l : List UInt8) (n k : Nat) : dec l = some (n, k) ↔ n ≤ maxNum ∧ k = encLen n ∧ ∃ r, l = enc n ++ r := by
  constructor
  · intro h
    obtain ⟨h1, h2, h3, h4, h5⟩ := dec_only l n k h
    refine ⟨h1, ?_, l.drop k, ?_⟩
    · unfold encLen; rw [← h5, List.length_take]; omega
    · rw [← h5, List.take_append_drop]
  · rintro ⟨h1, rfl, r, rfl⟩
    exact dec_enc n r h1

theorem drop_enc (n : Nat) (r : List UInt8) : (enc n ++ r).drop (encLen n) = r := List.drop_left' rfl
/-- A way of writing: what reads it, what writes it, which things can be written; it is read just if it was written. -/
structure Cd (α : Type) where
  p : List UInt8 → Option (α × List UInt8)
  e : α → List UInt8
  v : α → Prop
  law : ∀ l x r, p l = some (x, r) ↔ v x ∧ l = e x ++ r

section
variable {α β : Type}
theorem Cd.back (c : Cd α) {x : α} (h : c.v x) (r : List UInt8) : c.p (c.e x ++ r) = some (x, r) := (c.law _ _ _).2 ⟨h, rfl⟩
theorem Cd.back0 (c : Cd α) {x : α} (h : c.v x) : c.p (c.e x) = some (x, []) := by
  have := c.back h []
  rwa [List.append_nil] at this
theorem Cd.only (c : Cd α) {l r : List UInt8} {x : α} (h : c.p l = some (x, r)) : c.v x ∧ l = c.e x ++ r := (c.law _ _ _).1 h
theorem Cd.inj (c : Cd α) {x y : α} {r s : List UInt8} (hx : c.v x) (hy : c.v y) (h : c.e x ++ r = c.e y ++ s) : x = y ∧ r = s := by
  have h1 := c.back hx r
  rw [h, c.back hy s] at h1
  injection h1 with h1
  injection h1 with h1 h2
  exact ⟨h1.symm, h2.symm⟩
theorem Cd.inj0 (c : Cd α) {x y : α} (hx : c.v x) (hy : c.v y) (h : c.e x = c.e y) : x = y :=
  (c.inj (r := []) (s := []) hx hy (by rw [h])).1

/-- A number from least to most. -/
def cNum (lo hi : Nat) : Cd Nat where
  p l := match dec l with
    | some (n, k) => if lo ≤ n ∧ n ≤ hi then some (n, l.drop k) else none
    | none => none
  e := enc
  v n := lo ≤ n ∧ n ≤ hi ∧ n ≤ maxNum
  law l x r := by
    constructor
    · intro h
      split at h
      · rename_i n k hd
        split at h
        · rename_i hr
          injection h with h
          injection h with h1 h2
          subst h1; subst h2
          obtain ⟨g1, rfl, r, rfl⟩ := (dec_iff _ _ _).1 hd
          exact ⟨⟨hr.1, hr.2, g1⟩, by rw [drop_enc]⟩
        · cases h
      · cases h
    · rintro ⟨⟨h1, h2, h3⟩, rfl⟩
      rw [dec_enc x r h3]
      simp only
      rw [if_pos ⟨h1, h2⟩, drop_enc]

/-- A text of at most so many bytes. -/
def cTxt (most : Nat) : Cd (List UInt8) where
  p l := match dec l with
    | some (n, k) => if n ≤ most ∧ n ≤ (l.drop k).length then some ((l.drop k).take n, (l.drop k).drop n) else none
    | none => none
  e s := enc s.length ++ s
  v s := s.length ≤ most ∧ s.length ≤ maxNum
  law l x r := by
    constructor
    · intro h
      split at h
      · rename_i n k hd
        split at h
        · rename_i hr
          injection h with h
          injection h with h1 h2
          obtain ⟨g1, rfl, r', rfl⟩ := (dec_iff _ _ _).1 hd
          rw [drop_enc] at h1 h2 hr
          have hl : x.length = n := by rw [← h1, List.length_take]; omega
          refine ⟨⟨by omega, by omega⟩, ?_⟩
          rw [hl, ← h1, ← h2, List.append_assoc, List.take_append_drop]
        · cases h
      · cases h
    · rintro ⟨⟨h1, h2⟩, rfl⟩
      rw [List.append_assoc, dec_enc _ _ h2]
      simp only
      rw [drop_enc, if_pos ⟨h1, by simp⟩]
      simp

def encY (y : Bool) : List UInt8 := [if y then 1 else 0]
/-- A flag. -/
def cFlag : Cd Bool where
  p
    | c :: r => if c = 0 then some (false, r) else if c = 1 then some (true, r) else none
    | [] => none
  e := encY
  v _ := True
  law l x r := by
    constructor
    · intro h
      split at h
      · split at h
        · rename_i hc
          injection h with h
          injection h with h1 h2
          subst h1; subst h2; subst hc
          exact ⟨trivial, rfl⟩
        · split at h
          · rename_i hc
            injection h with h
            injection h with h1 h2
            subst h1; subst h2; subst hc
            exact ⟨trivial, rfl⟩
          · cases h
      · cases h
    · rintro ⟨_, rfl⟩
      cases x <;> rfl

/-- Nothing. -/
def cNil : Cd Unit where
  p l := some ((), l)
  e _ := []
  v _ := True
  law l x r := by
    constructor
    · intro h; injection h with h; injection h with _ h; subst h; exact ⟨trivial, rfl⟩
    · rintro ⟨_, rfl⟩; rfl

/-- One, and what it says comes behind it. -/
def Cd.bind (c : Cd α) (d : α → Cd β) : Cd (α × β) where
  p l := match c.p l with
    | some (x, r) => match (d x).p r with
      | some (y, s) => some ((x, y), s)
      | none => none
    | none => none
  e z := c.e z.1 ++ (d z.1).e z.2
  v z := c.v z.1 ∧ (d z.1).v z.2
  law l z r := by
    obtain ⟨x, y⟩ := z
    constructor
    · intro h
      split at h
      · rename_i x' r' h1
        split at h
        · rename_i y' s' h2
          injection h with h
          injection h with h3 h4
          injection h3 with h5 h6
          subst h5; subst h6; subst h4
          obtain ⟨v1, rfl⟩ := c.only h1
          obtain ⟨v2, rfl⟩ := (d x').only h2
          exact ⟨⟨v1, v2⟩, by rw [List.append_assoc]⟩
        · cases h
      · cases h
    · rintro ⟨⟨v1, v2⟩, rfl⟩
      simp only [List.append_assoc]
      rw [c.back v1]
      simp only
      rw [(d x).back v2]
/-- Another thing that stands for it. -/
def Cd.iso (c : Cd α) (f : α → β) (g : β → α) (q : β → Prop) [DecidablePred q] (h1 : ∀ y, f (g y) = y) (h2 : ∀ x, g (f x) = x) : Cd β where
  p l := match c.p l with
    | some (x, r) => if q (f x) then some (f x, r) else none
    | none => none
  e y := c.e (g y)
  v y := c.v (g y) ∧ q y
  law l y r := by
    constructor
    · intro h
      split at h
      · rename_i x r' hx
        split at h
        · rename_i hq
          injection h with h
          injection h with h3 h4
          subst h3; subst h4
          obtain ⟨v1, rfl⟩ := c.only hx
          rw [h2]
          exact ⟨⟨v1, hq⟩, rfl⟩
        · cases h
      · cases h
    · rintro ⟨⟨v1, hq⟩, rfl⟩
      rw [c.back v1]
      simp only [h1]
      rw [if_pos hq]
/-- So many of them. -/
def repP (c : Cd α) : Nat → List UInt8 → Option (List α × List UInt8)
  | 0, l => some ([], l)
  | n + 1, l => match c.p l with
    | some (x, r) => match repP c n r with
      | some (xs, s) => some (x :: xs, s)
      | none => none
    | none => none
theorem repP_law (c : Cd α) : ∀ n l z r, repP c n l = some (z, r) ↔ (z.length = n ∧ ∀ x ∈ z, c.v x) ∧ l = z.flatMap c.e ++ r
  | 0, l, z, r => by
    constructor
    · intro h; rw [repP] at h; injection h with h; injection h with h h'; subst h; subst h'; exact ⟨⟨rfl, by simp⟩, rfl⟩
    · rintro ⟨⟨h, _⟩, rfl⟩
      obtain rfl := List.eq_nil_of_length_eq_zero h
      rfl
  | n + 1, l, z, r => by
    constructor
    · intro h
      rw [repP] at h
      split at h
      · rename_i x' r' h1
        split at h
        · rename_i xs s' h2
          injection h with h
          injection h with h3 h4
          subst h3; subst h4
          obtain ⟨v1, rfl⟩ := c.only h1
          obtain ⟨⟨v3, v4⟩, rfl⟩ := (repP_law c n _ _ _).1 h2
          refine ⟨⟨by simp [v3], ?_⟩, by simp⟩
          intro x hx
          rcases List.mem_cons.1 hx with rfl | hx
          · exact v1
          · exact v4 x hx
        · cases h
      · cases h
    · rintro ⟨⟨v1, v2⟩, rfl⟩
      match z, v1 with
      | x :: xs, v1 =>
        rw [repP, List.flatMap_cons, List.append_assoc, c.back (v2 x (List.mem_cons_self ..))]
        simp only
        rw [(repP_law c n _ xs r).2 ⟨⟨by simpa using v1, fun y hy => v2 y (List.mem_cons_of_mem _ hy)⟩, rfl⟩]
def Cd.rep (c : Cd α) (n : Nat) : Cd (List α) where
  p := repP c n
  e xs := xs.flatMap c.e
  v xs := xs.length = n ∧ ∀ x ∈ xs, c.v x
  law := repP_law c n
/-- What stands behind a beginning is less. -/
theorem Cd.no_less (c : Cd α) {x y : α} {l : List UInt8} (hx : c.v x) (hl : l <+: c.e x) (h : c.p l = some (y, [])) : l = c.e x := by
  obtain ⟨t, ht⟩ := hl
  obtain ⟨vy, rfl⟩ := c.only h
  rw [List.append_nil] at ht ⊢
  have h1 := c.back vy t
  rw [ht, c.back0 hx] at h1
  injection h1 with h1
  injection h1 with h1 h2
  subst h2
  simpa using ht
end
end Go.Proofs.YtckdecodpjfcnaaGreatDoor
namespace Go.Proofs.YtckdecodpjfcnaaGreatDoor
open Go.RowKit

/-- A number from lo to hi: the number, the place, whether the reader is stopped. -/
def rdNum (l : List UInt8) (i : Nat) (bad : Bool) (lo hi : Int) : Int × Nat × Bool :=
  if bad = true then (0, i, true) else
  match dec (l.drop i) with
  | some (n, k) => if lo ≤ (n : Int) ∧ (n : Int) ≤ hi then ((n : Int), i + k, false) else (0, i, true)
  | none => (0, i, true)
/-- A text of at most so many bytes. -/
def rdTxt (l : List UInt8) (i : Nat) (bad : Bool) (most : Int) : List UInt8 × Nat × Bool :=
  if bad = true then ([], i, true) else
  match dec (l.drop i) with
  | some (n, k) => if (n : Int) ≤ most ∧ n ≤ (l.drop (i + k)).length then ((l.drop (i + k)).take n, i + k + n, false) else ([], i, true)
  | none => ([], i, true)
/-- A flag. -/
def rdFlag (l : List UInt8) (i : Nat) (bad : Bool) : Bool × Nat × Bool :=
  if bad = true then (false, i, true) else
  match l[i]? with
  | some c => if c = 0 then (false, i + 1, false) else if c = 1 then (true, i + 1, false) else (false, i, true)
  | none => (false, i, true)

theorem decF_take : ∀ (f i acc m : Nat) (l : List UInt8), f ≤ m → decF f i acc (l.take m) = decF f i acc l
  | 0, _, _, _, _, _ => by simp [decF]
  | f + 1, i, acc, m, l, h => by
    match m, h with
    | m + 1, h =>
      cases l with
      | nil => rfl
      | cons c l =>
        rw [List.take_succ_cons, decF, decF]
        simp only [decF_take f (i + 1) _ m l (by omega)]
theorem dec_take (l : List UInt8) : dec (l.take 6) = dec l := decF_take 6 0 0 6 l (Nat.le_refl _)

theorem dec_le {l : List UInt8} {n k : Nat} (h : dec l = some (n, k)) : k ≤ l.length ∧ n ≤ maxNum ∧ k ≤ 6 := by
  obtain ⟨h1, h2, h3, h4, h5⟩ := dec_only l n k h
  exact ⟨h4, h1, h3⟩
theorem rdNum_le {l : List UInt8} {i : Nat} (bad : Bool) (lo hi : Int) (h : i ≤ l.length) : (rdNum l i bad lo hi).2.1 ≤ l.length := by
  unfold rdNum
  split
  · exact h
  · split
    · rename_i n k hd
      split
      · have := (dec_le hd).1
        rw [List.length_drop] at this
        show i + k ≤ _
        omega
      · exact h
    · exact h
theorem rdTxt_le {l : List UInt8} {i : Nat} (bad : Bool) (most : Int) (h : i ≤ l.length) : (rdTxt l i bad most).2.1 ≤ l.length := by
  unfold rdTxt
  split
  · exact h
  · split
    · rename_i n k hd
      split
      · rename_i hc
        have h2 := (dec_le hd).1
        have h3 := hc.2
        rw [List.length_drop] at h2 h3
        show i + k + n ≤ _
        omega
      · exact h
    · exact h
theorem rdFlag_le {l : List UInt8} {i : Nat} (bad : Bool) (h : i ≤ l.length) : (rdFlag l i bad).2.1 ≤ l.length := by
  unfold rdFlag
  split
  · exact h
  · split
    · rename_i c hc
      have := (List.getElem?_eq_some_iff.1 hc).1
      split
      · show i + 1 ≤ _; omega
      · split
        · show i + 1 ≤ _; omega
        · exact h
    · exact h
end Go.Proofs.YtckdecodpjfcnaaGreatDoor
