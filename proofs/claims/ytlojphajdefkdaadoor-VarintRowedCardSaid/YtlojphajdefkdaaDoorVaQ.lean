/-
  Rows of numbers as bytes, and bytes as rows: the plain law.
-/
import Derived.Test.YtlojphajdefkdaaDoorVaP
import Derived.Test.YtlojphajdefkdaaDoorOpen
namespace Go.Proofs.YtlojphajdefkdaaDoor
open Go.RowKit

/-- Each of a row's numbers may be written. -/
def AllOk (l : List Int) : Prop := ∀ z ∈ l, 0 ≤ z ∧ z ≤ 1099511627776
def encs (l : List Int) : List UInt8 := l.flatMap fun z => enc z.toNat
def rowBytes (l : List Int) : List UInt8 := enc l.length ++ encs l

theorem encs_nil : encs [] = [] := rfl
theorem encs_cons (z : Int) (l : List Int) : encs (z :: l) = enc z.toNat ++ encs l := by simp [encs]
theorem encs_append (l m : List Int) : encs (l ++ m) = encs l ++ encs m := by simp [encs]
theorem encs_len : ∀ l : List Int, l.length ≤ (encs l).length
  | [] => by simp
  | z :: l => by
    have := encs_len l
    have h1 := encLen_pos z.toNat
    unfold encLen at h1
    rw [encs_cons, List.length_append, List.length_cons]; omega
theorem encs_le : ∀ l : List Int, AllOk l → (encs l).length ≤ 6 * l.length
  | [], _ => by simp [encs]
  | z :: l, h => by
    have := encs_le l (fun x hx => h x (List.mem_cons_of_mem _ hx))
    have hz := h z (List.mem_cons_self ..)
    have h1 := encLen_le z.toNat (show z.toNat ≤ 1099511627776 by omega)
    unfold encLen at h1
    rw [encs_cons, List.length_append, List.length_cons]; omega

/-- So many numbers, one behind the other, and how many bytes they have. -/
def decs : Nat → List UInt8 → Option (List Int × Nat)
  | 0, _ => some ([], 0)
  | c + 1, l =>
    match dec l with
    | none => none
    | some (n, m) =>
      match decs c (l.drop m) with
      | none => none
      | some (ns, k) => some ((n : Int) :: ns, m + k)

theorem decs_len : ∀ (c : Nat) (l : List UInt8) (ns : List Int) (k : Nat), decs c l = some (ns, k) → ns.length = c ∧ c ≤ k ∧ k ≤ l.length ∧ l.take k = encs ns ∧ AllOk ns
  | 0, l, ns, k, h => by
    simp only [decs, Option.some.injEq, Prod.mk.injEq] at h
    obtain ⟨rfl, rfl⟩ := h
    exact ⟨rfl, Nat.le_refl _, Nat.zero_le _, rfl, by simp [AllOk]⟩
  | c + 1, l, ns, k, h => by
    rw [decs] at h
    cases hd : dec l with
    | none => rw [hd] at h; cases h
    | some q =>
      obtain ⟨n, m⟩ := q
      rw [hd] at h
      simp only at h
      obtain ⟨hn, h0, _, hml, htk⟩ := dec_only l n m hd
      cases hs : decs c (l.drop m) with
      | none => rw [hs] at h; cases h
      | some q =>
        obtain ⟨ns', k'⟩ := q
        rw [hs] at h
        simp only [Option.some.injEq, Prod.mk.injEq] at h
        obtain ⟨rfl, rfl⟩ := h
        obtain ⟨h1, h2, h3, h4, h5⟩ := decs_len c _ _ _ hs
        rw [List.length_drop] at h3
        refine ⟨by rw [List.length_cons, h1], by omega, by omega, ?_, ?_⟩
        · rw [List.take_add, htk, h4, encs_cons, Int.toNat_natCast]
        · intro z hz
          rcases List.mem_cons.1 hz with rfl | hz
          · unfold maxNum at hn; omega
          · exact h5 z hz

theorem decs_short (c : Nat) (l : List UInt8) (h : l.length < c) : decs c l = none := by
  cases hd : decs c l with
  | none => rfl
  | some q =>
    obtain ⟨ns, k⟩ := q
    obtain ⟨_, h2, h3, _⟩ := decs_len c l ns k hd
    omega

theorem decs_encs : ∀ (l : List Int) (r : List UInt8), AllOk l → decs l.length (encs l ++ r) = some (l, (encs l).length)
  | [], r, _ => rfl
  | z :: l, r, h => by
    have hz := h z (List.mem_cons_self ..)
    have hl : AllOk l := fun x hx => h x (List.mem_cons_of_mem _ hx)
    have e : encs (z :: l) ++ r = enc z.toNat ++ (encs l ++ r) := by rw [encs_cons, List.append_assoc]
    rw [e, List.length_cons, decs, dec_enc z.toNat _ (show z.toNat ≤ 1099511627776 by omega)]
    simp only
    have hdrop : (enc z.toNat ++ (encs l ++ r)).drop (encLen z.toNat) = encs l ++ r := List.drop_left' rfl
    rw [hdrop, decs_encs l r hl]
    simp only
    rw [encs_cons, List.length_append, Int.toNat_of_nonneg hz.1]
    rfl

/-- What bytes say as a row. -/
def readOf (b : List UInt8) : Option (List Int) :=
  match dec b with
  | none => none
  | some (n, m) =>
    match decs n (b.drop m) with
    | none => none
    | some (ns, k) => if m + k = b.length then some ns else none

theorem readOf_only (b : List UInt8) (x : List Int) (h : readOf b = some x) : b = rowBytes x ∧ AllOk x ∧ x.length ≤ maxNum := by
  unfold readOf at h
  cases hd : dec b with
  | none => rw [hd] at h; cases h
  | some q =>
    obtain ⟨n, m⟩ := q
    rw [hd] at h
    simp only at h
    obtain ⟨hn, h0, _, hml, htk⟩ := dec_only b n m hd
    cases hs : decs n (b.drop m) with
    | none => rw [hs] at h; cases h
    | some q =>
      obtain ⟨ns, k⟩ := q
      rw [hs] at h
      simp only at h
      split at h
      · rename_i he
        simp only [Option.some.injEq] at h
        subst h
        obtain ⟨h1, h2, h3, h4, h5⟩ := decs_len n _ _ _ hs
        refine ⟨?_, h5, by omega⟩
        unfold rowBytes
        rw [h1, ← h4, ← htk, ← List.take_add, he, List.take_length]
      · cases h

theorem dec_row (l : List Int) (r : List UInt8) (hl : l.length ≤ maxNum) : dec (rowBytes l ++ r) = some (l.length, encLen l.length) := by
  unfold rowBytes
  rw [List.append_assoc, dec_enc _ _ hl]
theorem drop_row (l : List Int) (r : List UInt8) : (rowBytes l ++ r).drop (encLen l.length) = encs l ++ r := by
  unfold rowBytes
  rw [List.append_assoc]
  exact List.drop_left' rfl
theorem len_row (l : List Int) : (rowBytes l).length = encLen l.length + (encs l).length := by
  unfold rowBytes encLen
  rw [List.length_append]

theorem readOf_row (l : List Int) (h : AllOk l) (hl : l.length ≤ maxNum) : readOf (rowBytes l) = some l := by
  have h1 := dec_row l [] hl
  have h2 := drop_row l []
  rw [List.append_nil] at h1 h2
  unfold readOf
  rw [h1]
  simp only
  rw [h2, decs_encs l [] h]
  simp only
  rw [if_pos (len_row l).symm]

theorem row_prefix (l x : List Int) (r : List UInt8) (hl : AllOk l) (hx : AllOk x) (h1 : l.length ≤ maxNum) (h2 : x.length ≤ maxNum) (h : rowBytes l = rowBytes x ++ r) : r = [] := by
  have a := dec_row l [] h1
  have b := dec_row x r h2
  rw [List.append_nil, h, b] at a
  simp only [Option.some.injEq, Prod.mk.injEq] at a
  have c := drop_row l []
  rw [List.append_nil, h, ← a.1, drop_row x r] at c
  have d := decs_encs x r hx
  rw [c, a.1, decs_encs l [] hl] at d
  simp only [Option.some.injEq, Prod.mk.injEq] at d
  obtain ⟨rfl, _⟩ := d
  have := congrArg List.length h
  rw [List.length_append] at this
  exact List.eq_nil_of_length_eq_zero (by omega)

theorem readOf_more (l : List Int) (y : UInt8) (h : AllOk l) (hl : l.length ≤ maxNum) : readOf (rowBytes l ++ [y]) = none := by
  cases hd : readOf (rowBytes l ++ [y]) with
  | none => rfl
  | some x =>
    obtain ⟨e, hx, hxl⟩ := readOf_only _ _ hd
    have := row_prefix x l [y] hx h hxl hl e.symm
    cases this
theorem readOf_less (l : List Int) (h : AllOk l) (hl : l.length ≤ maxNum) : readOf ((rowBytes l).take ((rowBytes l).length - 1)) = none := by
  cases hd : readOf ((rowBytes l).take ((rowBytes l).length - 1)) with
  | none => rfl
  | some x =>
    obtain ⟨e, hx, hxl⟩ := readOf_only _ _ hd
    have h1 : rowBytes l = rowBytes x ++ (rowBytes l).drop ((rowBytes l).length - 1) := by rw [← e, List.take_append_drop]
    have h2 := row_prefix l x _ h hx hl hxl h1
    have h3 := congrArg List.length h2
    rw [List.length_drop] at h3
    have := len_row l
    have := encLen_pos l.length
    simp at h3
    omega
end Go.Proofs.YtlojphajdefkdaaDoor
