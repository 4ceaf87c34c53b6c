/-
  Layer 6, the plain part: records and batches; which may be; their bytes, and that these tell them apart.
  Readings that follow a way of writing, plainly: a number, a text, a flag, one behind the other, lists. No program in sight.
-/
import Derived.Test.YtckdecodpjfcnaaGreatDoorGrp02
set_option linter.unusedVariables false
set_option linter.unusedSimpArgs false
namespace Go.Proofs.YtckdecodpjfcnaaGreatDoor
open Go.RowKit

abbrev Rdr (α : Type) := List UInt8 → Nat → Bool → α × Nat × Bool

section
variable {α β γ δ : Type}
/-- A reading tells what a way of writing tells, or stops the reader. -/
structure Fol (rd : Rdr α) (c : Cd β) (f : β → α) : Prop where
  stop : ∀ l i, (rd l i true).2.2 = true
  le : ∀ l i b, i ≤ l.length → (rd l i b).2.1 ≤ l.length
  ok : ∀ l i y r, i ≤ l.length → c.p (l.drop i) = some (y, r) → ∃ j, j ≤ l.length ∧ rd l i false = (f y, j, false) ∧ l.drop j = r
  no : ∀ l i, i ≤ l.length → c.p (l.drop i) = none → (rd l i false).2.2 = true

theorem fol_num (lo hi : Nat) : Fol (fun l i b => rdNum l i b lo hi) (cNum lo hi) (fun n => (n : Int)) where
  stop l i := by unfold rdNum; rw [if_pos rfl]
  le l i b h := rdNum_le b _ _ h
  ok l i y r hil h := by
    have hp : (cNum lo hi).p (l.drop i) = match dec (l.drop i) with
      | some (n, k) => if lo ≤ n ∧ n ≤ hi then some (n, (l.drop i).drop k) else none
      | none => none := rfl
    rw [hp] at h
    split at h
    · rename_i n k hd
      split at h
      · rename_i hr
        injection h with h
        injection h with h1 h2
        subst h1; subst h2
        have hl := (dec_le hd).1
        rw [List.length_drop] at hl
        refine ⟨i + k, by omega, ?_, by rw [List.drop_drop]⟩
        unfold rdNum
        rw [if_neg (by simp), hd]
        simp only
        rw [if_pos ⟨by omega, by omega⟩]
      · cases h
    · cases h
  no l i hil h := by
    have hp : (cNum lo hi).p (l.drop i) = match dec (l.drop i) with
      | some (n, k) => if lo ≤ n ∧ n ≤ hi then some (n, (l.drop i).drop k) else none
      | none => none := rfl
    rw [hp] at h
    unfold rdNum
    rw [if_neg (by simp)]
    split at h
    · rename_i n k hd
      split at h
      · cases h
      · rename_i hr
        rw [hd]
        simp only
        rw [if_neg (fun hh => hr ⟨by omega, by omega⟩)]
    · rename_i hd
      rw [hd]
theorem fol_txt (most : Nat) : Fol (fun l i b => rdTxt l i b most) (cTxt most) id where
  stop l i := by unfold rdTxt; rw [if_pos rfl]
  le l i b h := rdTxt_le b _ h
  ok l i y r hi h := by
    have hp : (cTxt most).p (l.drop i) = match dec (l.drop i) with
      | some (n, k) => if n ≤ most ∧ n ≤ ((l.drop i).drop k).length then some (((l.drop i).drop k).take n, ((l.drop i).drop k).drop n) else none
      | none => none := rfl
    rw [hp] at h
    split at h
    · rename_i n k hd
      split at h
      · rename_i hr
        injection h with h
        injection h with h1 h2
        subst h1; subst h2
        have hl := (dec_le hd).1
        rw [List.length_drop] at hl
        rw [List.drop_drop] at hr ⊢
        have h3 := hr.2
        rw [List.length_drop] at h3
        refine ⟨i + k + n, by omega, ?_, by rw [List.drop_drop]⟩
        unfold rdTxt
        rw [if_neg (by simp), hd]
        simp only
        rw [if_pos ⟨by omega, hr.2⟩]
        rfl
      · cases h
    · cases h
  no l i hi h := by
    have hp : (cTxt most).p (l.drop i) = match dec (l.drop i) with
      | some (n, k) => if n ≤ most ∧ n ≤ ((l.drop i).drop k).length then some (((l.drop i).drop k).take n, ((l.drop i).drop k).drop n) else none
      | none => none := rfl
    rw [hp] at h
    unfold rdTxt
    rw [if_neg (by simp)]
    split at h
    · rename_i n k hd
      split at h
      · cases h
      · rename_i hr
        rw [hd]
        simp only
        rw [List.drop_drop] at hr
        rw [if_neg (fun hh => hr ⟨by omega, hh.2⟩)]
    · rename_i hd
      rw [hd]
theorem fol_flag : Fol rdFlag cFlag id where
  stop l i := by unfold rdFlag; rw [if_pos rfl]
  le l i b h := rdFlag_le b h
  ok l i y r hi h := by
    unfold rdFlag
    rw [if_neg (by simp)]
    cases hd : l.drop i with
    | nil => rw [hd] at h; cases h
    | cons c t =>
      rw [hd] at h
      have hc : l[i]? = some c := by
        have : (l.drop i)[0]? = some c := by rw [hd]; rfl
        rwa [List.getElem?_drop, Nat.add_zero] at this
      have hlt := (List.getElem?_eq_some_iff.1 hc).1
      have ht : l.drop (i + 1) = t := by rw [← List.drop_drop, hd]; rfl
      have hp : cFlag.p (c :: t) = if c = 0 then some (false, t) else if c = 1 then some (true, t) else none := rfl
      rw [hp] at h
      rw [hc]
      simp only
      split at h
      · rename_i h0
        injection h with h
        injection h with h1 h2
        subst h1; subst h2
        exact ⟨i + 1, by omega, by rw [if_pos h0]; rfl, ht⟩
      · rename_i h0
        split at h
        · rename_i h1'
          injection h with h
          injection h with h1 h2
          subst h1; subst h2
          exact ⟨i + 1, by omega, by rw [if_neg h0, if_pos h1']; rfl, ht⟩
        · cases h
  no l i hi h := by
    unfold rdFlag
    rw [if_neg (by simp)]
    cases hd : l.drop i with
    | nil =>
      have hc : l[i]? = none := by
        have : (l.drop i)[0]? = none := by rw [hd]; rfl
        rwa [List.getElem?_drop, Nat.add_zero] at this
      rw [hc]
    | cons c t =>
      rw [hd] at h
      have hc : l[i]? = some c := by
        have : (l.drop i)[0]? = some c := by rw [hd]; rfl
        rwa [List.getElem?_drop, Nat.add_zero] at this
      have hp : cFlag.p (c :: t) = if c = 0 then some (false, t) else if c = 1 then some (true, t) else none := rfl
      rw [hp] at h
      rw [hc]
      simp only
      split at h
      · cases h
      · rename_i h0
        split at h
        · cases h
        · rename_i h1
          rw [if_neg h0, if_neg h1]

/-- One reading behind the other. -/
def rdBind (rd : Rdr α) (k : α → Rdr γ) : Rdr γ := fun l i b => k (rd l i b).1 l (rd l i b).2.1 (rd l i b).2.2
/-- What was read, turned. -/
def rdMap (rd : Rdr α) (f : α → γ) : Rdr γ := fun l i b => (f (rd l i b).1, (rd l i b).2)
theorem Fol.bind {rd : Rdr α} {c : Cd β} {f : β → α} (h : Fol rd c f) {k : α → Rdr γ} {d : β → Cd δ} {g : β → δ → γ} (hk : ∀ y, Fol (k (f y)) (d y) (g y))
    (hs : ∀ a l i, (k a l i true).2.2 = true) (hle : ∀ a l i b, i ≤ l.length → (k a l i b).2.1 ≤ l.length) : Fol (rdBind rd k) (c.bind d) (fun z => g z.1 z.2) where
  stop l i := by unfold rdBind; rw [h.stop]; exact hs _ _ _
  le l i b hi := hle _ _ _ _ (h.le l i b hi)
  ok l i z r hi hp := by
    have e : (c.bind d).p (l.drop i) = match c.p (l.drop i) with
      | some (x, r) => match (d x).p r with
        | some (y, s) => some ((x, y), s)
        | none => none
      | none => none := rfl
    rw [e] at hp
    split at hp
    · rename_i x r1 h1
      split at hp
      · rename_i y s h2
        injection hp with hp
        injection hp with h3 h4
        subst h3; subst h4
        obtain ⟨j, hj, e1, e2⟩ := h.ok l i x r1 hi h1
        rw [← e2] at h2
        obtain ⟨j', hj', e3, e4⟩ := (hk x).ok l j y s hj h2
        exact ⟨j', hj', by unfold rdBind; rw [e1]; exact e3, e4⟩
      · cases hp
    · cases hp
  no l i hi hp := by
    have e : (c.bind d).p (l.drop i) = match c.p (l.drop i) with
      | some (x, r) => match (d x).p r with
        | some (y, s) => some ((x, y), s)
        | none => none
      | none => none := rfl
    rw [e] at hp
    split at hp
    · rename_i x r1 h1
      split at hp
      · cases hp
      · rename_i h2
        obtain ⟨j, hj, e1, e2⟩ := h.ok l i x r1 hi h1
        rw [← e2] at h2
        unfold rdBind
        rw [e1]
        exact (hk x).no l j hj h2
    · rename_i h1
      have := h.no l i hi h1
      unfold rdBind
      rw [this]
      exact hs _ _ _
theorem Fol.map {rd : Rdr α} {c : Cd β} {f : β → α} (h : Fol rd c f) (g : α → γ) : Fol (rdMap rd g) c (fun y => g (f y)) where
  stop l i := h.stop l i
  le l i b hi := h.le l i b hi
  ok l i y r hi hp := by
    obtain ⟨j, hj, e1, e2⟩ := h.ok l i y r hi hp
    exact ⟨j, hj, by unfold rdMap; rw [e1], e2⟩
  no l i hi hp := h.no l i hi hp
theorem fol_nil (a : α) : Fol (fun _ i b => (a, i, b)) cNil (fun _ => a) where
  stop _ _ := rfl
  le _ _ _ h := h
  ok l i y r hi h := by
    injection h with h
    injection h with _ h
    exact ⟨i, hi, rfl, h⟩
  no l i hi h := by cases h
/-- What stands for it is read likewise. -/
theorem Fol.iso {ε : Type} {rd : Rdr α} {c : Cd β} {f : β → α} (h : Fol rd c f) (F : β → ε) (G : ε → β) (q : ε → Prop) [DecidablePred q] (h1 : ∀ y, F (G y) = y) (h2 : ∀ x, G (F x) = x) (hq : ∀ x, q x) : Fol rd (c.iso F G q h1 h2) (fun y => f (G y)) where
  stop := h.stop
  le := h.le
  ok l i y r hi hp := by
    have e : (c.iso F G q h1 h2).p (l.drop i) = match c.p (l.drop i) with
      | some (x, r) => if q (F x) then some (F x, r) else none
      | none => none := rfl
    rw [e] at hp
    split at hp
    · rename_i x r1 hx
      rw [if_pos (hq _)] at hp
      injection hp with hp
      injection hp with h3 h4
      subst h3; subst h4
      rw [h2]
      exact h.ok l i x _ hi hx
    · cases hp
  no l i hi hp := by
    have e : (c.iso F G q h1 h2).p (l.drop i) = match c.p (l.drop i) with
      | some (x, r) => if q (F x) then some (F x, r) else none
      | none => none := rfl
    rw [e] at hp
    split at hp
    · rw [if_pos (hq _)] at hp; cases hp
    · rename_i hx
      exact h.no l i hi hx
theorem Fol.congr {rd rd' : Rdr α} {c : Cd β} {f f' : β → α} (h : Fol rd c f) (h1 : ∀ l i b, rd' l i b = rd l i b) (h2 : ∀ y, f' y = f y) : Fol rd' c f' := by
  obtain rfl : rd' = rd := funext fun l => funext fun i => funext fun b => h1 l i b
  obtain rfl : f' = f := funext h2
  exact h
/-- So many readings. -/
def rdRep (rd : Rdr α) : Nat → Rdr (List α)
  | 0, _, i, b => ([], i, b)
  | n + 1, l, i, b => ((rd l i b).1 :: (rdRep rd n l (rd l i b).2.1 (rd l i b).2.2).1, (rdRep rd n l (rd l i b).2.1 (rd l i b).2.2).2)
theorem rdRep_stop {rd : Rdr α} (hs : ∀ l i, (rd l i true).2.2 = true) : ∀ n l i, (rdRep rd n l i true).2.2 = true
  | 0, _, _ => rfl
  | n + 1, l, i => by
    rw [rdRep]
    show (rdRep rd n l _ (rd l i true).2.2).2.2 = true
    rw [hs]
    exact rdRep_stop hs n l _
theorem rdRep_le {rd : Rdr α} (hle : ∀ l i b, i ≤ l.length → (rd l i b).2.1 ≤ l.length) : ∀ n l i b, i ≤ l.length → (rdRep rd n l i b).2.1 ≤ l.length
  | 0, _, _, _, h => h
  | n + 1, l, i, b, h => rdRep_le hle n l _ _ (hle l i b h)
theorem Fol.rep_ok {rd : Rdr α} {c : Cd β} {f : β → α} (h : Fol rd c f) : ∀ n l i y r, i ≤ l.length → repP c n (l.drop i) = some (y, r) → ∃ j, j ≤ l.length ∧ rdRep rd n l i false = (y.map f, j, false) ∧ l.drop j = r
  | 0, l, i, y, r, hi, hp => by
    rw [repP] at hp
    injection hp with hp
    injection hp with h1 h2
    subst h1
    exact ⟨i, hi, rfl, h2⟩
  | n + 1, l, i, y, r, hi, hp => by
    rw [repP] at hp
    split at hp
    · rename_i x r1 h1
      split at hp
      · rename_i xs s h2
        injection hp with hp
        injection hp with h3 h4
        subst h3; subst h4
        obtain ⟨j, hj, e1, e2⟩ := h.ok l i x r1 hi h1
        rw [← e2] at h2
        obtain ⟨j', hj', e3, e4⟩ := Fol.rep_ok h n l j xs s hj h2
        exact ⟨j', hj', by rw [rdRep, e1]; simp only; rw [e3]; rfl, e4⟩
      · cases hp
    · cases hp
theorem Fol.rep_no {rd : Rdr α} {c : Cd β} {f : β → α} (h : Fol rd c f) : ∀ n l i, i ≤ l.length → repP c n (l.drop i) = none → (rdRep rd n l i false).2.2 = true
  | 0, l, i, hi, hp => by rw [repP] at hp; cases hp
  | n + 1, l, i, hi, hp => by
    rw [repP] at hp
    rw [rdRep]
    split at hp
    · rename_i x r1 h1
      split at hp
      · cases hp
      · rename_i h2
        obtain ⟨j, hj, e1, e2⟩ := h.ok l i x r1 hi h1
        rw [← e2] at h2
        rw [e1]
        exact Fol.rep_no h n l j hj h2
    · rename_i h1
      have h2 := h.no l i hi h1
      show (rdRep rd n l _ (rd l i false).2.2).2.2 = true
      rw [h2]
      exact rdRep_stop h.stop n l _
theorem Fol.rep {rd : Rdr α} {c : Cd β} {f : β → α} (h : Fol rd c f) (n : Nat) : Fol (rdRep rd n) (c.rep n) (List.map f) where
  stop l i := rdRep_stop h.stop n l i
  le l i b hi := rdRep_le h.le n l i b hi
  ok l i y r hi hp := h.rep_ok n l i y r hi hp
  no l i hi hp := h.rep_no n l i hi hp
/-- From the front, so many taken, so many left. -/
theorem rdRep_add (rd : Rdr α) : ∀ n m l i b, rdRep rd (n + m) l i b = ((rdRep rd n l i b).1 ++ (rdRep rd m l (rdRep rd n l i b).2.1 (rdRep rd n l i b).2.2).1, (rdRep rd m l (rdRep rd n l i b).2.1 (rdRep rd n l i b).2.2).2)
  | 0, m, l, i, b => by simp [rdRep]
  | n + 1, m, l, i, b => by
    rw [show n + 1 + m = (n + m) + 1 by omega, rdRep, rdRep, rdRep_add rd n m]
    rfl
theorem rdRep_len (rd : Rdr α) : ∀ n l i b, (rdRep rd n l i b).1.length = n
  | 0, _, _, _ => rfl
  | n + 1, l, i, b => by rw [rdRep]; simp [rdRep_len rd n]
theorem rdRep_snoc (rd : Rdr α) (n : Nat) (l : List UInt8) (i : Nat) (b : Bool) :
    rdRep rd (n + 1) l i b = ((rdRep rd n l i b).1 ++ [(rd l (rdRep rd n l i b).2.1 (rdRep rd n l i b).2.2).1], (rd l (rdRep rd n l i b).2.1 (rdRep rd n l i b).2.2).2) := by
  rw [rdRep_add rd n 1]; rfl

/-- All bytes read, and nothing left: just what was written. -/
theorem Fol.all {rd : Rdr α} {c : Cd β} {f : β → α} (h : Fol rd c f) {l : List UInt8} {x : α} : rd l 0 false = (x, l.length, false) ↔ ∃ y, c.v y ∧ l = c.e y ∧ f y = x := by
  constructor
  · intro hr
    cases hp : c.p (l.drop 0) with
    | none =>
      have := h.no l 0 (Nat.zero_le _) hp
      rw [hr] at this
      cases this
    | some z =>
      obtain ⟨y, r⟩ := z
      obtain ⟨j, hj, e1, e2⟩ := h.ok l 0 y r (Nat.zero_le _) hp
      rw [hr] at e1
      injection e1 with e3 e4
      injection e4 with e4 _
      subst e4
      rw [List.drop_length] at e2
      subst e2
      obtain ⟨hv, he⟩ := c.only hp
      exact ⟨y, hv, by simpa using he, e3.symm⟩
  · rintro ⟨y, hv, rfl, rfl⟩
    have hp : c.p ((c.e y).drop 0) = some (y, []) := c.back0 hv
    obtain ⟨j, hj, e1, e2⟩ := h.ok _ 0 y [] (Nat.zero_le _) hp
    have : j = (c.e y).length := by
      have h3 := congrArg List.length e2
      rw [List.length_drop] at h3
      have h4 : (c.e y).length - j = 0 := h3
      omega
    rw [e1, this]
end
end Go.Proofs.YtckdecodpjfcnaaGreatDoor
namespace Go.Proofs.YtckdecodpjfcnaaGreatDoor
open Go.RowKit

abbrev Rec := ByteArray × ByteArray
def cellsR (l : List Rec) : List Value := l.flatMap fun p => [.string p.1, .string p.2]
theorem cellsR_cons (p : Rec) (l : List Rec) : cellsR (p :: l) = .string p.1 :: .string p.2 :: cellsR l := by simp [cellsR]
theorem cellsR_append (l m : List Rec) : cellsR (l ++ m) = cellsR l ++ cellsR m := by simp [cellsR]
theorem length_cellsR : ∀ l : List Rec, (cellsR l).length = l.length * 2
  | [] => rfl
  | p :: l => by rw [cellsR_cons, List.length_cons, List.length_cons, length_cellsR l, List.length_cons]; omega
theorem cellsR_at : ∀ (l : List Rec) (i : Nat) (p : Rec), l[i]? = some p → (cellsR l)[i * 2]? = some (.string p.1) ∧ (cellsR l)[i * 2 + 1]? = some (.string p.2)
  | [], i, p, h => by simp at h
  | q :: l, 0, p, h => by
    simp at h
    subst h
    rw [cellsR_cons]
    exact ⟨rfl, rfl⟩
  | q :: l, i + 1, p, h => by
    have := cellsR_at l i p (by simpa using h)
    rw [cellsR_cons, show (i + 1) * 2 = i * 2 + 1 + 1 by omega]
    simpa using this
theorem cellsR_one (l : List Rec) : ∀ u ∈ cellsR l, u.oneCell' = true := by
  intro u hu
  simp only [cellsR, List.mem_flatMap] at hu
  obtain ⟨p, _, hu⟩ := hu
  simp at hu
  rcases hu with rfl | rfl <;> rfl
theorem Reads.plain2 {w : World} {B n : Nat} {A : Option Addr} {l : List Rec} (h : Reads w B 2 A n (cellsR l)) (hn : 0 < n) :
    ∃ b off, A = some ⟨b, off, none⟩ ∧ b < B ∧ ∀ i p, l[i]? = some p → w.cell? ⟨b, off + i * 2, none⟩ = some (.string p.1) ∧ w.cell? ⟨b, off + i * 2 + 1, none⟩ = some (.string p.2) := by
  obtain ⟨ad, rfl, hb, hc⟩ := h.2 hn
  obtain ⟨b, off, spot⟩ := ad
  have hl : 0 < (cellsR l).length := by have := h.1; omega
  have h0 := hc 0 _ (List.getElem?_eq_getElem hl)
  have hs : spot = none := by simpa [Addr.add] using World.cell?_spot h0
  subst hs
  refine ⟨b, off, rfl, hb, fun i p hp => ?_⟩
  obtain ⟨h1, h2⟩ := cellsR_at l i p hp
  have k1 := hc _ _ h1
  have k2 := hc _ _ h2
  rw [add_none] at k1 k2
  exact ⟨k1, by rw [Nat.add_assoc]; exact k2⟩

structure Bat where
  pid : Int
  ep : Int
  seq : Int
  txn : Bool
  rs : List Rec
theorem Bat.ext' {a b : Bat} (h1 : a.pid = b.pid) (h2 : a.ep = b.ep) (h3 : a.seq = b.seq) (h4 : a.txn = b.txn) (h5 : a.rs = b.rs) : a = b := by
  obtain ⟨_, _, _, _, _⟩ := a
  obtain ⟨_, _, _, _, _⟩ := b
  simp only at h1 h2 h3 h4 h5
  subst h1; subst h2; subst h3; subst h4; subst h5
  rfl
def Bat0 : Bat := ⟨0, 0, 0, false, []⟩

def badR (r : Rec) : Bool := decide (16 < r.1.size) || decide (16 < r.2.size)
def headB (b : Bat) : Bool := decide (1 ≤ b.pid ∧ b.pid ≤ 8 ∧ 0 ≤ b.ep ∧ b.ep ≤ 100 ∧ 1 ≤ b.rs.length ∧ b.rs.length ≤ 4 ∧ 0 ≤ b.seq ∧ b.seq + b.rs.length ≤ 1048576)
def mayBt (b : Bat) : Bool := headB b && !(b.rs.any badR)
theorem mayBt_iff (b : Bat) : mayBt b = true ↔ (1 ≤ b.pid ∧ b.pid ≤ 8 ∧ 0 ≤ b.ep ∧ b.ep ≤ 100 ∧ 1 ≤ b.rs.length ∧ b.rs.length ≤ 4 ∧ 0 ≤ b.seq ∧ b.seq + b.rs.length ≤ 1048576) ∧ ∀ r ∈ b.rs, r.1.size ≤ 16 ∧ r.2.size ≤ 16 := by
  unfold mayBt headB badR
  rw [Bool.and_eq_true, decide_eq_true_eq, Bool.not_eq_true', List.any_eq_false]
  refine and_congr Iff.rfl (forall_congr' fun r => forall_congr' fun hr => ?_)
  simp

/-- A record's way of writing. -/
def cRec : Cd Rec := ((cTxt 16).bind fun _ => cTxt 16).iso (fun z => (bs z.1, bs z.2)) (fun r => (lb r.1, lb r.2)) (fun _ => True) (fun y => by simp [bs_lb]) (fun x => by simp [lb_bs])
theorem cRec_e (r : Rec) : cRec.e r = (cTxt 1024).e (lb r.1) ++ (cTxt 1024).e (lb r.2) := rfl
theorem cRec_v (r : Rec) : cRec.v r ↔ r.1.size ≤ 16 ∧ r.2.size ≤ 16 := by
  show (((lb r.1).length ≤ 16 ∧ (lb r.1).length ≤ maxNum) ∧ ((lb r.2).length ≤ 16 ∧ (lb r.2).length ≤ maxNum)) ∧ True ↔ _
  rw [length_lb, length_lb, and_true]
  unfold maxNum
  omega
/-- A batch's way of writing. -/
def batOf (z : Nat × Nat × Nat × Bool × Nat × List Rec) : Bat := ⟨z.1, z.2.1, z.2.2.1, z.2.2.2.1, z.2.2.2.2.2⟩
def ofBat (b : Bat) : Nat × Nat × Nat × Bool × Nat × List Rec := (b.pid.toNat, b.ep.toNat, b.seq.toNat, b.txn, b.rs.length, b.rs)
def cBatRaw : Cd (Nat × Nat × Nat × Bool × Nat × List Rec) :=
  (cNum 1 8).bind fun _ => (cNum 0 100).bind fun _ => (cNum 0 1048576).bind fun _ => cFlag.bind fun _ => (cNum 1 4).bind fun n => cRec.rep n
/-- What is read of bytes as a batch, and what is left. -/
def takeBt (l : List UInt8) : Option (Bat × List UInt8) :=
  match cBatRaw.p l with
  | some (z, r) => if mayBt (batOf z) = true then some (batOf z, r) else none
  | none => none
def encBt (b : Bat) : List UInt8 := cBatRaw.e (ofBat b)
theorem encBt_eq (b : Bat) : encBt b = enc b.pid.toNat ++ (enc b.ep.toNat ++ (enc b.seq.toNat ++ (encY b.txn ++ (enc b.rs.length ++ b.rs.flatMap cRec.e)))) := rfl
theorem raw_v {b : Bat} (h : mayBt b = true) : cBatRaw.v (ofBat b) ∧ batOf (ofBat b) = b := by
  obtain ⟨h1, h2⟩ := (mayBt_iff b).1 h
  refine ⟨⟨?_, ?_, ?_, trivial, ?_, ⟨rfl, fun r hr => (cRec_v r).2 (h2 r hr)⟩⟩, ?_⟩
  · show 1 ≤ b.pid.toNat ∧ b.pid.toNat ≤ 8 ∧ b.pid.toNat ≤ maxNum
    unfold maxNum; omega
  · show 0 ≤ b.ep.toNat ∧ b.ep.toNat ≤ 100 ∧ b.ep.toNat ≤ maxNum
    unfold maxNum; omega
  · show 0 ≤ b.seq.toNat ∧ b.seq.toNat ≤ 1048576 ∧ b.seq.toNat ≤ maxNum
    unfold maxNum; omega
  · show 1 ≤ b.rs.length ∧ b.rs.length ≤ 4 ∧ b.rs.length ≤ maxNum
    unfold maxNum; omega
  · refine Bat.ext' ?_ ?_ ?_ rfl rfl
    · show ((b.pid.toNat : Nat) : Int) = b.pid
      omega
    · show ((b.ep.toNat : Nat) : Int) = b.ep
      omega
    · show ((b.seq.toNat : Nat) : Int) = b.seq
      omega
theorem raw_of {z : Nat × Nat × Nat × Bool × Nat × List Rec} (h : cBatRaw.v z) : ofBat (batOf z) = z := by
  obtain ⟨a, b, c, d, n, rs⟩ := z
  obtain ⟨_, _, _, _, _, h6, _⟩ := h
  have h6' : rs.length = n := h6
  simp [ofBat, batOf, h6']
def cBat : Cd Bat where
  p := takeBt
  e := encBt
  v b := mayBt b = true
  law l b r := by
    unfold takeBt
    constructor
    · intro h
      split at h
      · rename_i z r' hz
        split at h
        · rename_i hm
          injection h with h
          injection h with h1 h2
          subst h1; subst h2
          obtain ⟨hv, rfl⟩ := cBatRaw.only hz
          refine ⟨hm, ?_⟩
          unfold encBt
          rw [raw_of hv]
        · cases h
      · cases h
    · rintro ⟨hm, rfl⟩
      obtain ⟨hv, he⟩ := raw_v hm
      unfold encBt
      rw [cBatRaw.back hv]
      simp only [he]
      rw [if_pos hm]

theorem encT_len (s : ByteArray) (h : s.size ≤ 16) : ((cTxt 1024).e (lb s)).length ≤ 17 ∧ 1 ≤ ((cTxt 1024).e (lb s)).length := by
  show (enc (lb s).length ++ lb s).length ≤ 17 ∧ 1 ≤ (enc (lb s).length ++ lb s).length
  rw [List.length_append, length_lb, enc_small _ (by omega)]
  simp; omega
theorem encR_len (r : Rec) (h : r.1.size ≤ 16 ∧ r.2.size ≤ 16) : (cRec.e r).length ≤ 34 := by
  rw [cRec_e, List.length_append]
  have h1 := encT_len r.1 h.1
  have h2 := encT_len r.2 h.2
  omega
theorem encRs_len : ∀ (l : List Rec), (∀ r ∈ l, r.1.size ≤ 16 ∧ r.2.size ≤ 16) → (l.flatMap cRec.e).length ≤ 34 * l.length
  | [], _ => by simp
  | r :: l, h => by
    rw [List.flatMap_cons, List.length_append, List.length_cons]
    have h1 := encR_len r (h r (List.mem_cons_self ..))
    have h2 := encRs_len l fun x hx => h x (List.mem_cons_of_mem _ hx)
    omega
theorem enc_len3 (n : Nat) (h : n ≤ 1048576) : (enc n).length ≤ 3 := by
  have h1 : enc n = encF 2 n := encF_more 2 8 n (by have : (128 : Nat) ^ (2 + 1) = 2097152 := by decide
                                                    rw [this]; omega) (by omega)
  rw [h1]; exact (encF_len 2 n).2
/-- A batch's bytes are few, and there are some. -/
theorem encBt_len (b : Bat) (h : mayBt b = true) : (encBt b).length ≤ 160 ∧ 1 ≤ (encBt b).length := by
  obtain ⟨h1, h2⟩ := (mayBt_iff b).1 h
  rw [encBt_eq]
  simp only [List.length_append]
  have e1 : (enc b.pid.toNat).length = 1 := by rw [enc_small _ (by omega)]; rfl
  have e2 : (enc b.ep.toNat).length = 1 := by rw [enc_small _ (by omega)]; rfl
  have e3 := enc_len3 b.seq.toNat (by omega)
  have e4 : (encY b.txn).length = 1 := rfl
  have e5 : (enc b.rs.length).length = 1 := by rw [enc_small _ (by omega)]; rfl
  have e6 := encRs_len b.rs h2
  omega

/-- How great a batch is. -/
def greatS : List Rec → Nat
  | [] => 0
  | r :: l => min r.1.size 5000 + min r.2.size 5000 + greatS l
theorem greatS_append (l m : List Rec) : greatS (l ++ m) = greatS l + greatS m := by
  induction l with
  | nil => simp [greatS]
  | cons r l ih => simp only [List.cons_append, greatS, ih]; omega
theorem greatS_le (l : List Rec) : greatS l ≤ 10000 * l.length := by
  induction l with
  | nil => simp [greatS]
  | cons r l ih => simp only [greatS, List.length_cons]; omega
def greatBt (b : Bat) : Bool := decide (60 < b.rs.length) || decide (4000 < greatS b.rs)
theorem greatS_mem {l : List Rec} {r : Rec} (h : r ∈ l) (hs : greatS l ≤ 4000) : r.1.size ≤ 4000 ∧ r.2.size ≤ 4000 := by
  induction l with
  | nil => cases h
  | cons x l ih =>
    simp only [greatS] at hs
    rcases List.mem_cons.1 h with rfl | h
    · omega
    · exact ih h (by omega)
theorem not_great {b : Bat} (h : greatBt b = false) : b.rs.length ≤ 60 ∧ ∀ r ∈ b.rs, r.1.size ≤ 4000 ∧ r.2.size ≤ 4000 := by
  unfold greatBt at h
  simp only [Bool.or_eq_false_iff, decide_eq_false_iff_not] at h
  exact ⟨by omega, fun r hr => greatS_mem hr (by omega)⟩
end Go.Proofs.YtckdecodpjfcnaaGreatDoor
