/-
  Readings that follow a way of writing, plainly: a number, a text, a flag, one behind the other, lists. No program in sight.
-/
import Derived.Test.YtcockikekgmfkaaDoorFiP
namespace Go.Proofs.YtcockikekgmfkaaDoor
open Go.RowKit

abbrev Rdr (α : Type) := List UInt8 → Nat → Bool → α × Nat × Bool

section
variable {α β γ δ : Type}
/-- A reading tells what a way of writing tells, or stops the reader. -/
structure Fol (rd : Rdr α) (c : Cd β) (f : β → α) : Prop where
  stop : ∀ l i, (rd l i true).2.2 = true
  le : ∀ l i b, i ≤ l.length → (rd l i b).2.1 ≤ l.length
  ok : ∀ l i y r, i ≤ l.length → c.p (l.drop i) = some (y, r) → ∃ j, j ≤ l.length ∧ rd l i false = (f y, j, false) ∧ l.drop j = r
  no : ∀ l i, i ≤ l.length → c.p (l.drop i) = none → (rd l i false).2.2 = true

theorem fol_num (lo hi : Nat) : Fol (fun l i b => rdNum l i b lo hi) (cNum lo hi) (fun n => (n : Int)) where
  stop l i := by unfold rdNum; rw [if_pos rfl]
  le l i b h := rdNum_le b _ _ h
  ok l i y r hil h := by
    have hp : (cNum lo hi).p (l.drop i) = match dec (l.drop i) with
      | some (n, k) => if lo ≤ n ∧ n ≤ hi then some (n, (l.drop i).drop k) else none
      | none => none := rfl
    rw [hp] at h
    split at h
    · rename_i n k hd
      split at h
      · rename_i hr
        injection h with h
        injection h with h1 h2
        subst h1; subst h2
        have hl := (dec_le hd).1
        rw [List.length_drop] at hl
        refine ⟨i + k, by omega, ?_, by rw [List.drop_drop]⟩
        unfold rdNum
        rw [if_neg (by simp), hd]
        simp only
        rw [if_pos ⟨by omega, by omega⟩]
      · cases h
    · cases h
  no l i hil h := by
    have hp : (cNum lo hi).p (l.drop i) = match dec (l.drop i) with
      | some (n, k) => if lo ≤ n ∧ n ≤ hi then some (n, (l.drop i).drop k) else none
      | none => none := rfl
    rw [hp] at h
    unfold rdNum
    rw [if_neg (by simp)]
    split at h
    · rename_i n k hd
      split at h
      · cases h
      · rename_i hr
        rw [hd]
        simp only
        rw [if_neg (fun hh => hr ⟨by omega, by omega⟩)]
    · rename_i hd
      rw [hd]
theorem fol_txt (most : Nat) : Fol (fun l i b => rdTxt l i b most) (cTxt most) id where
  stop l i := by unfold rdTxt; rw [if_pos rfl]
  le l i b h := rdTxt_le b _ h
  ok l i y r hi h := by
    have hp : (cTxt most).p (l.drop i) = match dec (l.drop i) with
      | some (n, k) => if n ≤ most ∧ n ≤ ((l.drop i).drop k).length then some (((l.drop i).drop k).take n, ((l.drop i).drop k).drop n) else none
      | none => none := rfl
    rw [hp] at h
    split at h
    · rename_i n k hd
      split at h
      · rename_i hr
        injection h with h
        injection h with h1 h2
        subst h1; subst h2
        have hl := (dec_le hd).1
        rw [List.length_drop] at hl
        rw [List.drop_drop] at hr ⊢
        have h3 := hr.2
        rw [List.length_drop] at h3
        refine ⟨i + k + n, by omega, ?_, by rw [List.drop_drop]⟩
        unfold rdTxt
        rw [if_neg (by simp), hd]
        simp only
        rw [if_pos ⟨by omega, hr.2⟩]
        rfl
      · cases h
    · cases h
  no l i hi h := by
    have hp : (cTxt most).p (l.drop i) = match dec (l.drop i) with
      | some (n, k) => if n ≤ most ∧ n ≤ ((l.drop i).drop k).length then some (((l.drop i).drop k).take n, ((l.drop i).drop k).drop n) else none
      | none => none := rfl
    rw [hp] at h
    unfold rdTxt
    rw [if_neg (by simp)]
    split at h
    · rename_i n k hd
      split at h
      · cases h
      · rename_i hr
        rw [hd]
        simp only
        rw [List.drop_drop] at hr
        rw [if_neg (fun hh => hr ⟨by omega, hh.2⟩)]
    · rename_i hd
      rw [hd]
theorem fol_flag : Fol rdFlag cFlag id where
  stop l i := by unfold rdFlag; rw [if_pos rfl]
  le l i b h := rdFlag_le b h
  ok l i y r hi h := by
    unfold rdFlag
    rw [if_neg (by simp)]
    cases hd : l.drop i with
    | nil => rw [hd] at h; cases h
    | cons c t =>
      rw [hd] at h
      have hc : l[i]? = some c := by
        have : (l.drop i)[0]? = some c := by rw [hd]; rfl
        rwa [List.getElem?_drop, Nat.add_zero] at this
      have hlt := (List.getElem?_eq_some_iff.1 hc).1
      have ht : l.drop (i + 1) = t := by rw [← List.drop_drop, hd]; rfl
      have hp : cFlag.p (c :: t) = if c = 0 then some (false, t) else if c = 1 then some (true, t) else none := rfl
      rw [hp] at h
      rw [hc]
      simp only
      split at h
      · rename_i h0
        injection h with h
        injection h with h1 h2
        subst h1; subst h2
        exact ⟨i + 1, by omega, by rw [if_pos h0]; rfl, ht⟩
      · rename_i h0
        split at h
        · rename_i h1'
          injection h with h
          injection h with h1 h2
          subst h1; subst h2
          exact ⟨i + 1, by omega, by rw [if_neg h0, if_pos h1']; rfl, ht⟩
        · cases h
  no l i hi h := by
    unfold rdFlag
    rw [if_neg (by simp)]
    cases hd : l.drop i with
    | nil =>
      have hc : l[i]? = none := by
        have : (l.drop i)[0]? = none := by rw [hd]; rfl
        rwa [List.getElem?_drop, Nat.add_zero] at this
      rw [hc]
    | cons c t =>
      rw [hd] at h
      have hc : l[i]? = some c := by
        have : (l.drop i)[0]? = some c := by rw [hd]; rfl
        rwa [List.getElem?_drop, Nat.add_zero] at this
      have hp : cFlag.p (c :: t) = if c = 0 then some (false, t) else if c = 1 then some (true, t) else none := rfl
      rw [hp] at h
      rw [hc]
      simp only
      split at h
      · cases h
      · rename_i h0
        split at h
        · cases h
        · rename_i h1
          rw [if_neg h0, if_neg h1]

/-- One reading behind the other. -/
def rdBind (rd : Rdr α) (k : α → Rdr γ) : Rdr γ := fun l i b => k (rd l i b).1 l (rd l i b).2.1 (rd l i b).2.2
/-- What was read, turned. -/
def rdMap (rd : Rdr α) (f : α → γ) : Rdr γ := fun l i b => (f (rd l i b).1, (rd l i b).2)
theorem Fol.bind {rd : Rdr α} {c : Cd β} {f : β → α} (h : Fol rd c f) {k : α → Rdr γ} {d : β → Cd δ} {g : β → δ → γ} (hk : ∀ y, Fol (k (f y)) (d y) (g y))
    (hs : ∀ a l i, (k a l i true).2.2 = true) (hle : ∀ a l i b, i ≤ l.length → (k a l i b).2.1 ≤ l.length) : Fol (rdBind rd k) (c.bind d) (fun z => g z.1 z.2) where
  stop l i := by unfold rdBind; rw [h.stop]; exact hs _ _ _
  le l i b hi := hle _ _ _ _ (h.le l i b hi)
  ok l i z r hi hp := by
    have e : (c.bind d).p (l.drop i) = match c.p (l.drop i) with
      | some (x, r) => match (d x).p r with
        | some (y, s) => some ((x, y), s)
        | none => none
      | none => none := rfl
    rw [e] at hp
    split at hp
    · rename_i x r1 h1
      split at hp
      · rename_i y s h2
        injection hp with hp
        injection hp with h3 h4
        subst h3; subst h4
        obtain ⟨j, hj, e1, e2⟩ := h.ok l i x r1 hi h1
        rw [← e2] at h2
        obtain ⟨j', hj', e3, e4⟩ := (hk x).ok l j y s hj h2
        exact ⟨j', hj', by unfold rdBind; rw [e1]; exact e3, e4⟩
      · cases hp
    · cases hp
  no l i hi hp := by
    have e : (c.bind d).p (l.drop i) = match c.p (l.drop i) with
      | some (x, r) => match (d x).p r with
        | some (y, s) => some ((x, y), s)
        | none => none
      | none => none := rfl
    rw [e] at hp
    split at hp
    · rename_i x r1 h1
      split at hp
      · cases hp
      · rename_i h2
        obtain ⟨j, hj, e1, e2⟩ := h.ok l i x r1 hi h1
        rw [← e2] at h2
        unfold rdBind
        rw [e1]
        exact (hk x).no l j hj h2
    · rename_i h1
      have := h.no l i hi h1
      unfold rdBind
      rw [this]
      exact hs _ _ _
theorem Fol.map {rd : Rdr α} {c : Cd β} {f : β → α} (h : Fol rd c f) (g : α → γ) : Fol (rdMap rd g) c (fun y => g (f y)) where
  stop l i := h.stop l i
  le l i b hi := h.le l i b hi
  ok l i y r hi hp := by
    obtain ⟨j, hj, e1, e2⟩ := h.ok l i y r hi hp
    exact ⟨j, hj, by unfold rdMap; rw [e1], e2⟩
  no l i hi hp := h.no l i hi hp
theorem fol_nil (a : α) : Fol (fun _ i b => (a, i, b)) cNil (fun _ => a) where
  stop _ _ := rfl
  le _ _ _ h := h
  ok l i y r hi h := by
    injection h with h
    injection h with _ h
    exact ⟨i, hi, rfl, h⟩
  no l i hi h := by cases h
/-- What stands for it is read likewise. -/
theorem Fol.iso {ε : Type} {rd : Rdr α} {c : Cd β} {f : β → α} (h : Fol rd c f) (F : β → ε) (G : ε → β) (q : ε → Prop) [DecidablePred q] (h1 : ∀ y, F (G y) = y) (h2 : ∀ x, G (F x) = x) (hq : ∀ x, q x) : Fol rd (c.iso F G q h1 h2) (fun y => f (G y)) where
  stop := h.stop
  le := h.le
  ok l i y r hi hp := by
    have e : (c.iso F G q h1 h2).p (l.drop i) = match c.p (l.drop i) with
      | some (x, r) => if q (F x) then some (F x, r) else none
      | none => none := rfl
    rw [e] at hp
    split at hp
    · rename_i x r1 hx
      rw [if_pos (hq _)] at hp
      injection hp with hp
      injection hp with h3 h4
      subst h3; subst h4
      rw [h2]
      exact h.ok l i x _ hi hx
    · cases hp
  no l i hi hp := by
    have e : (c.iso F G q h1 h2).p (l.drop i) = match c.p (l.drop i) with
      | some (x, r) => if q (F x) then some (F x, r) else none
      | none => none := rfl
    rw [e] at hp
    split at hp
    · rw [if_pos (hq _)] at hp; cases hp
    · rename_i hx
      exact h.no l i hi hx
theorem Fol.congr {rd rd' : Rdr α} {c : Cd β} {f f' : β → α} (h : Fol rd c f) (h1 : ∀ l i b, rd' l i b = rd l i b) (h2 : ∀ y, f' y = f y) : Fol rd' c f' := by
  obtain rfl : rd' = rd := funext fun l => funext fun i => funext fun b => h1 l i b
  obtain rfl : f' = f := funext h2
  exact h
/-- So many readings. -/
def rdRep (rd : Rdr α) : Nat → Rdr (List α)
  | 0, _, i, b => ([], i, b)
  | n + 1, l, i, b => ((rd l i b).1 :: (rdRep rd n l (rd l i b).2.1 (rd l i b).2.2).1, (rdRep rd n l (rd l i b).2.1 (rd l i b).2.2).2)
theorem rdRep_stop {rd : Rdr α} (hs : ∀ l i, (rd l i true).2.2 = true) : ∀ n l i, (rdRep rd n l i true).2.2 = true
  | 0, _, _ => rfl
  | n + 1, l, i => by
    rw [rdRep]
    show (rdRep rd n l _ (rd l i true).2.2).2.2 = true
    rw [hs]
    exact rdRep_stop hs n l _
theorem rdRep_le {rd : Rdr α} (hle : ∀ l i b, i ≤ l.length → (rd l i b).2.1 ≤ l.length) : ∀ n l i b, i ≤ l.length → (rdRep rd n l i b).2.1 ≤ l.length
  | 0, _, _, _, h => h
  | n + 1, l, i, b, h => rdRep_le hle n l _ _ (hle l i b h)
theorem Fol.rep_ok {rd : Rdr α} {c : Cd β} {f : β → α} (h : Fol rd c f) : ∀ n l i y r, i ≤ l.length → repP c n (l.drop i) = some (y, r) → ∃ j, j ≤ l.length ∧ rdRep rd n l i false = (y.map f, j, false) ∧ l.drop j = r
  | 0, l, i, y, r, hi, hp => by
    rw [repP] at hp
    injection hp with hp
    injection hp with h1 h2
    subst h1
    exact ⟨i, hi, rfl, h2⟩
  | n + 1, l, i, y, r, hi, hp => by
    rw [repP] at hp
    split at hp
    · rename_i x r1 h1
      split at hp
      · rename_i xs s h2
        injection hp with hp
        injection hp with h3 h4
        subst h3; subst h4
        obtain ⟨j, hj, e1, e2⟩ := h.ok l i x r1 hi h1
        rw [← e2] at h2
        obtain ⟨j', hj', e3, e4⟩ := Fol.rep_ok h n l j xs s hj h2
        exact ⟨j', hj', by rw [rdRep, e1]; simp only; rw [e3]; rfl, e4⟩
      · cases hp
    · cases hp
theorem Fol.rep_no {rd : Rdr α} {c : Cd β} {f : β → α} (h : Fol rd c f) : ∀ n l i, i ≤ l.length → repP c n (l.drop i) = none → (rdRep rd n l i false).2.2 = true
  | 0, l, i, hi, hp => by rw [repP] at hp; cases hp
  | n + 1, l, i, hi, hp => by
    rw [repP] at hp
    rw [rdRep]
    split at hp
    · rename_i x r1 h1
      split at hp
      · cases hp
      · rename_i h2
        obtain ⟨j, hj, e1, e2⟩ := h.ok l i x r1 hi h1
        rw [← e2] at h2
        rw [e1]
        exact Fol.rep_no h n l j hj h2
    · rename_i h1
      have h2 := h.no l i hi h1
      show (rdRep rd n l _ (rd l i false).2.2).2.2 = true
      rw [h2]
      exact rdRep_stop h.stop n l _
theorem Fol.rep {rd : Rdr α} {c : Cd β} {f : β → α} (h : Fol rd c f) (n : Nat) : Fol (rdRep rd n) (c.rep n) (List.map f) where
  stop l i := rdRep_stop h.stop n l i
  le l i b hi := rdRep_le h.le n l i b hi
  ok l i y r hi hp := h.rep_ok n l i y r hi hp
  no l i hi hp := h.rep_no n l i hi hp
/-- From the front, so many taken, so many left. -/
theorem rdRep_add (rd : Rdr α) : ∀ n m l i b, rdRep rd (n + m) l i b = ((rdRep rd n l i b).1 ++ (rdRep rd m l (rdRep rd n l i b).2.1 (rdRep rd n l i b).2.2).1, (rdRep rd m l (rdRep rd n l i b).2.1 (rdRep rd n l i b).2.2).2)
  | 0, m, l, i, b => by simp [rdRep]
  | n + 1, m, l, i, b => by
    rw [show n + 1 + m = (n + m) + 1 by omega, rdRep, rdRep, rdRep_add rd n m]
    rfl
theorem rdRep_len (rd : Rdr α) : ∀ n l i b, (rdRep rd n l i b).1.length = n
  | 0, _, _, _ => rfl
  | n + 1, l, i, b => by rw [rdRep]; simp [rdRep_len rd n]
theorem rdRep_snoc (rd : Rdr α) (n : Nat) (l : List UInt8) (i : Nat) (b : Bool) :
    rdRep rd (n + 1) l i b = ((rdRep rd n l i b).1 ++ [(rd l (rdRep rd n l i b).2.1 (rdRep rd n l i b).2.2).1], (rd l (rdRep rd n l i b).2.1 (rdRep rd n l i b).2.2).2) := by
  rw [rdRep_add rd n 1]; rfl

/-- All bytes read, and nothing left: just what was written. -/
theorem Fol.all {rd : Rdr α} {c : Cd β} {f : β → α} (h : Fol rd c f) {l : List UInt8} {x : α} : rd l 0 false = (x, l.length, false) ↔ ∃ y, c.v y ∧ l = c.e y ∧ f y = x := by
  constructor
  · intro hr
    cases hp : c.p (l.drop 0) with
    | none =>
      have := h.no l 0 (Nat.zero_le _) hp
      rw [hr] at this
      cases this
    | some z =>
      obtain ⟨y, r⟩ := z
      obtain ⟨j, hj, e1, e2⟩ := h.ok l 0 y r (Nat.zero_le _) hp
      rw [hr] at e1
      injection e1 with e3 e4
      injection e4 with e4 _
      subst e4
      rw [List.drop_length] at e2
      subst e2
      obtain ⟨hv, he⟩ := c.only hp
      exact ⟨y, hv, by simpa using he, e3.symm⟩
  · rintro ⟨y, hv, rfl, rfl⟩
    have hp : c.p ((c.e y).drop 0) = some (y, []) := c.back0 hv
    obtain ⟨j, hj, e1, e2⟩ := h.ok _ 0 y [] (Nat.zero_le _) hp
    have : j = (c.e y).length := by
      have h3 := congrArg List.length e2
      rw [List.length_drop] at h3
      have h4 : (c.e y).length - j = 0 := h3
      omega
    rw [e1, this]
end
end Go.Proofs.YtcockikekgmfkaaDoor
