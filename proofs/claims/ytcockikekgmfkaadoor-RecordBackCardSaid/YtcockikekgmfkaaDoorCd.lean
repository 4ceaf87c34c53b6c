/-
  Ways of writing that are read back, plainly: a number, a text, a flag, one behind the other, lists. No program in sight.
-/
import Derived.Test.YtcockikekgmfkaaDoorVaP
namespace Go.Proofs.YtcockikekgmfkaaDoor
open Go.RowKit

theorem dec_iff (l : List UInt8) (n k : Nat) : dec l = some (n, k) ↔ n ≤ maxNum ∧ k = encLen n ∧ ∃ r, l = enc n ++ r := by
  constructor
  · intro h
    obtain ⟨h1, h2, h3, h4, h5⟩ := dec_only l n k h
    refine ⟨h1, ?_, l.drop k, ?_⟩
    · unfold encLen; rw [← h5, List.length_take]; omega
    · rw [← h5, List.take_append_drop]
  · rintro ⟨h1, rfl, r, rfl⟩
    exact dec_enc n r h1

theorem drop_enc (n : Nat) (r : List UInt8) : (enc n ++ r).drop (encLen n) = r := List.drop_left' rfl
/-- A way of writing: what reads it, what writes it, which things can be written; it is read just if it was written. -/
structure Cd (α : Type) where
  p : List UInt8 → Option (α × List UInt8)
  e : α → List UInt8
  v : α → Prop
  law : ∀ l x r, p l = some (x, r) ↔ v x ∧ l = e x ++ r

section
variable {α β : Type}
theorem Cd.back (c : Cd α) {x : α} (h : c.v x) (r : List UInt8) : c.p (c.e x ++ r) = some (x, r) := (c.law _ _ _).2 ⟨h, rfl⟩
theorem Cd.back0 (c : Cd α) {x : α} (h : c.v x) : c.p (c.e x) = some (x, []) := by
  have := c.back h []
  rwa [List.append_nil] at this
theorem Cd.only (c : Cd α) {l r : List UInt8} {x : α} (h : c.p l = some (x, r)) : c.v x ∧ l = c.e x ++ r := (c.law _ _ _).1 h
theorem Cd.inj (c : Cd α) {x y : α} {r s : List UInt8} (hx : c.v x) (hy : c.v y) (h : c.e x ++ r = c.e y ++ s) : x = y ∧ r = s := by
  have h1 := c.back hx r
  rw [h, c.back hy s] at h1
  injection h1 with h1
  injection h1 with h1 h2
  exact ⟨h1.symm, h2.symm⟩
theorem Cd.inj0 (c : Cd α) {x y : α} (hx : c.v x) (hy : c.v y) (h : c.e x = c.e y) : x = y :=
  (c.inj (r := []) (s := []) hx hy (by rw [h])).1

/-- A number from least to most. -/
def cNum (lo hi : Nat) : Cd Nat where
  p l := match dec l with
    | some (n, k) => if lo ≤ n ∧ n ≤ hi then some (n, l.drop k) else none
    | none => none
  e := enc
  v n := lo ≤ n ∧ n ≤ hi ∧ n ≤ maxNum
  law l x r := by
    constructor
    · intro h
      split at h
      · rename_i n k hd
        split at h
        · rename_i hr
          injection h with h
          injection h with h1 h2
          subst h1; subst h2
          obtain ⟨g1, rfl, r, rfl⟩ := (dec_iff _ _ _).1 hd
          exact ⟨⟨hr.1, hr.2, g1⟩, by rw [drop_enc]⟩
        · cases h
      · cases h
    · rintro ⟨⟨h1, h2, h3⟩, rfl⟩
      rw [dec_enc x r h3]
      simp only
      rw [if_pos ⟨h1, h2⟩, drop_enc]

/-- A text of at most so many bytes. -/
def cTxt (most : Nat) : Cd (List UInt8) where
  p l := match dec l with
    | some (n, k) => if n ≤ most ∧ n ≤ (l.drop k).length then some ((l.drop k).take n, (l.drop k).drop n) else none
    | none => none
  e s := enc s.length ++ s
  v s := s.length ≤ most ∧ s.length ≤ maxNum
  law l x r := by
    constructor
    · intro h
      split at h
      · rename_i n k hd
        split at h
        · rename_i hr
          injection h with h
          injection h with h1 h2
          obtain ⟨g1, rfl, r', rfl⟩ := (dec_iff _ _ _).1 hd
          rw [drop_enc] at h1 h2 hr
          have hl : x.length = n := by rw [← h1, List.length_take]; omega
          refine ⟨⟨by omega, by omega⟩, ?_⟩
          rw [hl, ← h1, ← h2, List.append_assoc, List.take_append_drop]
        · cases h
      · cases h
    · rintro ⟨⟨h1, h2⟩, rfl⟩
      rw [List.append_assoc, dec_enc _ _ h2]
      simp only
      rw [drop_enc, if_pos ⟨h1, by simp⟩]
      simp

def encY (y : Bool) : List UInt8 := [if y then 1 else 0]
/-- A flag. -/
def cFlag : Cd Bool where
  p
    | c :: r => if c = 0 then some (false, r) else if c = 1 then some (true, r) else none
    | [] => none
  e := encY
  v _ := True
  law l x r := by
    constructor
    · intro h
      split at h
      · split at h
        · rename_i hc
          injection h with h
          injection h with h1 h2
          subst h1; subst h2; subst hc
          exact ⟨trivial, rfl⟩
        · split at h
          · rename_i hc
            injection h with h
            injection h with h1 h2
            subst h1; subst h2; subst hc
            exact ⟨trivial, rfl⟩
          · cases h
      · cases h
    · rintro ⟨_, rfl⟩
      cases x <;> rfl

/-- Nothing. -/
def cNil : Cd Unit where
  p l := some ((), l)
  e _ := []
  v _ := True
  law l x r := by
    constructor
    · intro h; injection h with h; injection h with _ h; subst h; exact ⟨trivial, rfl⟩
    · rintro ⟨_, rfl⟩; rfl

/-- One, and what it says comes behind it. -/
def Cd.bind (c : Cd α) (d : α → Cd β) : Cd (α × β) where
  p l := match c.p l with
    | some (x, r) => match (d x).p r with
      | some (y, s) => some ((x, y), s)
      | none => none
    | none => none
  e z := c.e z.1 ++ (d z.1).e z.2
  v z := c.v z.1 ∧ (d z.1).v z.2
  law l z r := by
    obtain ⟨x, y⟩ := z
    constructor
    · intro h
      split at h
      · rename_i x' r' h1
        split at h
        · rename_i y' s' h2
          injection h with h
          injection h with h3 h4
          injection h3 with h5 h6
          subst h5; subst h6; subst h4
          obtain ⟨v1, rfl⟩ := c.only h1
          obtain ⟨v2, rfl⟩ := (d x').only h2
          exact ⟨⟨v1, v2⟩, by rw [List.append_assoc]⟩
        · cases h
      · cases h
    · rintro ⟨⟨v1, v2⟩, rfl⟩
      simp only [List.append_assoc]
      rw [c.back v1]
      simp only
      rw [(d x).back v2]
/-- Another thing that stands for it. -/
def Cd.iso (c : Cd α) (f : α → β) (g : β → α) (q : β → Prop) [DecidablePred q] (h1 : ∀ y, f (g y) = y) (h2 : ∀ x, g (f x) = x) : Cd β where
  p l := match c.p l with
    | some (x, r) => if q (f x) then some (f x, r) else none
    | none => none
  e y := c.e (g y)
  v y := c.v (g y) ∧ q y
  law l y r := by
    constructor
    · intro h
      split at h
      · rename_i x r' hx
        split at h
        · rename_i hq
          injection h with h
          injection h with h3 h4
          subst h3; subst h4
          obtain ⟨v1, rfl⟩ := c.only hx
          rw [h2]
          exact ⟨⟨v1, hq⟩, rfl⟩
        · cases h
      · cases h
    · rintro ⟨⟨v1, hq⟩, rfl⟩
      rw [c.back v1]
      simp only [h1]
      rw [if_pos hq]
/-- So many of them. -/
def repP (c : Cd α) : Nat → List UInt8 → Option (List α × List UInt8)
  | 0, l => some ([], l)
  | n + 1, l => match c.p l with
    | some (x, r) => match repP c n r with
      | some (xs, s) => some (x :: xs, s)
      | none => none
    | none => none
theorem repP_law (c : Cd α) : ∀ n l z r, repP c n l = some (z, r) ↔ (z.length = n ∧ ∀ x ∈ z, c.v x) ∧ l = z.flatMap c.e ++ r
  | 0, l, z, r => by
    constructor
    · intro h; rw [repP] at h; injection h with h; injection h with h h'; subst h; subst h'; exact ⟨⟨rfl, by simp⟩, rfl⟩
    · rintro ⟨⟨h, _⟩, rfl⟩
      obtain rfl := List.eq_nil_of_length_eq_zero h
      rfl
  | n + 1, l, z, r => by
    constructor
    · intro h
      rw [repP] at h
      split at h
      · rename_i x' r' h1
        split at h
        · rename_i xs s' h2
          injection h with h
          injection h with h3 h4
          subst h3; subst h4
          obtain ⟨v1, rfl⟩ := c.only h1
          obtain ⟨⟨v3, v4⟩, rfl⟩ := (repP_law c n _ _ _).1 h2
          refine ⟨⟨by simp [v3], ?_⟩, by simp⟩
          intro x hx
          rcases List.mem_cons.1 hx with rfl | hx
          · exact v1
          · exact v4 x hx
        · cases h
      · cases h
    · rintro ⟨⟨v1, v2⟩, rfl⟩
      match z, v1 with
      | x :: xs, v1 =>
        rw [repP, List.flatMap_cons, List.append_assoc, c.back (v2 x (List.mem_cons_self ..))]
        simp only
        rw [(repP_law c n _ xs r).2 ⟨⟨by simpa using v1, fun y hy => v2 y (List.mem_cons_of_mem _ hy)⟩, rfl⟩]
def Cd.rep (c : Cd α) (n : Nat) : Cd (List α) where
  p := repP c n
  e xs := xs.flatMap c.e
  v xs := xs.length = n ∧ ∀ x ∈ xs, c.v x
  law := repP_law c n
/-- What stands behind a beginning is less. -/
theorem Cd.no_less (c : Cd α) {x y : α} {l : List UInt8} (hx : c.v x) (hl : l <+: c.e x) (h : c.p l = some (y, [])) : l = c.e x := by
  obtain ⟨t, ht⟩ := hl
  obtain ⟨vy, rfl⟩ := c.only h
  rw [List.append_nil] at ht ⊢
  have h1 := c.back vy t
  rw [ht, c.back0 hx] at h1
  injection h1 with h1
  injection h1 with h1 h2
  subst h2
  simpa using ht
end
end Go.Proofs.YtcockikekgmfkaaDoor
