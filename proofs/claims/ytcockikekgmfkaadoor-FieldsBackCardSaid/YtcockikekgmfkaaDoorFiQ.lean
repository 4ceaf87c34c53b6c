/-
  Fields that were written are read in the same order, plainly; of a beginning something is missing. No program in sight.
-/
import Derived.Test.YtcockikekgmfkaaDoorFiP
namespace Go.Proofs.YtcockikekgmfkaaDoor
open Go.RowKit

/-- A field: what it is, a number, a text. -/
abbrev Fld := Int × Int × ByteArray
def encFd (x : Fld) : List UInt8 := if x.1 = 0 then enc x.2.1.toNat else if x.1 = 1 then (cTxt 1024).e (lb x.2.2) else encY (decide (x.2.1 = 1))
def validF (x : Fld) : Prop := (x.1 = 0 → 0 ≤ x.2.1 ∧ x.2.1 ≤ 1099511627776) ∧ (x.1 = 1 → x.2.2.size ≤ 1024)
/-- One field, read from a place on: the place behind it. -/
def stepF (l : List UInt8) (x : Fld) (i : Nat) : Option Nat :=
  if x.1 = 0 then (if (rdNum l i false 0 1099511627776).1 = x.2.1 ∧ (rdNum l i false 0 1099511627776).2.2 = false then some (rdNum l i false 0 1099511627776).2.1 else none)
  else if x.1 = 1 then (if bs (rdTxt l i false 1024).1 = x.2.2 ∧ (rdTxt l i false 1024).2.2 = false then some (rdTxt l i false 1024).2.1 else none)
  else (if (rdFlag l i false).1 = decide (x.2.1 = 1) ∧ (rdFlag l i false).2.2 = false then some (rdFlag l i false).2.1 else none)
def readsF (l : List UInt8) : List Fld → Nat → Bool
  | [], i => decide (i = l.length)
  | x :: xs, i => match stepF l x i with
    | some j => readsF l xs j
    | none => false

theorem drop_of_app {l a : List UInt8} {i : Nat} {r : List UInt8} (h : l.drop i = a ++ r) : l.drop (i + a.length) = r := by
  rw [← List.drop_drop, h]; simp
theorem rdNum_iff (l : List UInt8) (i : Nat) (n : Nat) (j : Nat) (hn : n ≤ maxNum) :
    rdNum l i false 0 1099511627776 = ((n : Int), j, false) ↔ l.drop i = enc n ++ l.drop j ∧ j = i + encLen n := by
  unfold rdNum
  simp only [Bool.false_eq_true, if_false]
  constructor
  · intro h
    split at h
    · rename_i m k hd
      split at h
      · injection h with h1 h2
        injection h2 with h2 _
        obtain ⟨g1, rfl, r, hr⟩ := (dec_iff _ _ _).1 hd
        have : m = n := by omega
        subst this
        subst h2
        exact ⟨by rw [hr]; congr 1; exact (drop_of_app hr).symm, rfl⟩
      · injection h with _ h2
        injection h2 with _ h2
        cases h2
    · injection h with _ h2
      injection h2 with _ h2
      cases h2
  · rintro ⟨h, rfl⟩
    have : dec (l.drop i) = some (n, encLen n) := (dec_iff _ _ _).2 ⟨hn, rfl, _, h⟩
    rw [this]
    simp only
    rw [if_pos ⟨by omega, by unfold maxNum at hn; omega⟩]
theorem rdTxt_iff (l : List UInt8) (i : Nat) (s : List UInt8) (j : Nat) (hs : s.length ≤ 1024) :
    rdTxt l i false 1024 = (s, j, false) ↔ l.drop i = (cTxt 1024).e s ++ l.drop j ∧ j = i + ((cTxt 1024).e s).length := by
  unfold rdTxt
  simp only [Bool.false_eq_true, if_false]
  constructor
  · intro h
    split at h
    · rename_i m k hd
      split at h
      · rename_i hc
        injection h with h1 h2
        injection h2 with h2 _
        obtain ⟨g1, rfl, r, hr⟩ := (dec_iff _ _ _).1 hd
        have hdr := drop_of_app hr
        have hdr' : l.drop (i + encLen m) = r := hdr
        rw [hdr'] at h1 hc
        have hl : s.length = m := by rw [← h1, List.length_take]; omega
        subst h2
        subst hl
        have e1 : (cTxt 1024).e s = enc s.length ++ s := rfl
        have hrs : r = s ++ r.drop s.length := by
          conv => lhs; rw [← List.take_append_drop s.length r]
          rw [h1]
        refine ⟨?_, ?_⟩
        · rw [e1, hr, List.append_assoc]
          congr 1
          rw [← List.drop_drop, hdr']
          exact hrs
        · rw [e1, List.length_append]; unfold encLen; omega
      · injection h with _ h2
        injection h2 with _ h2
        cases h2
    · injection h with _ h2
      injection h2 with _ h2
      cases h2
  · rintro ⟨h, rfl⟩
    have e1 : (cTxt 1024).e s = enc s.length ++ s := rfl
    rw [e1] at h ⊢
    rw [List.append_assoc] at h
    have hd : dec (l.drop i) = some (s.length, encLen s.length) := (dec_iff _ _ _).2 ⟨by unfold maxNum; omega, rfl, _, h⟩
    have hdr : l.drop (i + encLen s.length) = s ++ l.drop (i + (enc s.length ++ s).length) := drop_of_app h
    rw [hd]
    simp only
    rw [hdr, if_pos ⟨by omega, by simp⟩]
    rw [List.take_left' rfl, List.length_append]
    unfold encLen
    rw [Nat.add_assoc]
theorem rdFlag_iff (l : List UInt8) (i : Nat) (y : Bool) (j : Nat) :
    rdFlag l i false = (y, j, false) ↔ l.drop i = encY y ++ l.drop j ∧ j = i + 1 := by
  unfold rdFlag
  simp only [Bool.false_eq_true, if_false]
  have hd : ∀ c, l[i]? = some c → l.drop i = [c] ++ l.drop (i + 1) := by
    intro c hc
    obtain ⟨h1, h2⟩ := List.getElem?_eq_some_iff.1 hc
    rw [List.drop_eq_getElem_cons h1, h2]; rfl
  constructor
  · intro h
    split at h
    · rename_i c hc
      have hcc := hd c hc
      split at h
      · rename_i h0
        injection h with h1 h2
        injection h2 with h2 _
        subst h1; subst h2; subst h0
        exact ⟨hcc, rfl⟩
      · split at h
        · rename_i h0
          injection h with h1 h2
          injection h2 with h2 _
          subst h1; subst h2; subst h0
          exact ⟨hcc, rfl⟩
        · injection h with _ h2
          injection h2 with _ h2
          cases h2
    · injection h with _ h2
      injection h2 with _ h2
      cases h2
  · rintro ⟨h, rfl⟩
    have : l[i]? = some (if y then 1 else 0) := by
      have h1 : (l.drop i)[0]? = some (if y then 1 else 0) := by rw [h]; rfl
      rwa [List.getElem?_drop, Nat.add_zero] at h1
    rw [this]
    cases y <;> rfl

theorem stepF_iff (l : List UInt8) (x : Fld) (i j : Nat) (hv : validF x) : stepF l x i = some j ↔ l.drop i = encFd x ++ l.drop j ∧ j = i + (encFd x).length := by
  obtain ⟨d, n, s⟩ := x
  unfold stepF encFd
  simp only
  by_cases h0 : d = 0
  · rw [if_pos h0, if_pos h0]
    have hv0 : 0 ≤ n ∧ n ≤ 1099511627776 := hv.1 h0
    obtain ⟨m, rfl⟩ := Int.eq_ofNat_of_zero_le hv0.1
    have := rdNum_iff l i m j (by unfold maxNum; omega)
    rw [Int.toNat_natCast]
    show _ ↔ l.drop i = enc m ++ l.drop j ∧ j = i + encLen m
    rw [← this]
    generalize rdNum l i false 0 1099511627776 = r
    obtain ⟨a, b, c⟩ := r
    simp only
    constructor
    · intro h
      split at h
      · rename_i hc
        injection h with h
        rw [hc.1, hc.2, h]
      · cases h
    · intro h
      injection h with h1 h2
      injection h2 with h2 h3
      rw [if_pos ⟨h1, h3⟩, h2]
  · rw [if_neg h0, if_neg h0]
    by_cases h1 : d = 1
    · rw [if_pos h1, if_pos h1]
      have hs : s.size ≤ 1024 := hv.2 h1
      have := rdTxt_iff l i (lb s) j (by rw [length_lb]; exact hs)
      rw [← this]
      generalize rdTxt l i false 1024 = r
      obtain ⟨a, b, c⟩ := r
      simp only
      constructor
      · intro h
        split at h
        · rename_i hc
          injection h with h
          rw [← hc.1, hc.2, h, lb_bs]
        · cases h
      · intro h
        injection h with h1 h2
        injection h2 with h2 h3
        rw [if_pos ⟨by rw [h1, bs_lb], h3⟩, h2]
    · rw [if_neg h1, if_neg h1]
      have := rdFlag_iff l i (decide (n = 1)) j
      show _ ↔ l.drop i = encY (decide (n = 1)) ++ l.drop j ∧ j = i + 1
      rw [← this]
      generalize rdFlag l i false = r
      obtain ⟨a, b, c⟩ := r
      simp only
      constructor
      · intro h
        split at h
        · rename_i hc
          injection h with h
          rw [hc.1, hc.2, h]
        · cases h
      · intro h
        injection h with h1 h2
        injection h2 with h2 h3
        rw [if_pos ⟨h1, h3⟩, h2]

def encFds (xs : List Fld) : List UInt8 := xs.flatMap encFd
theorem readsF_iff (l : List UInt8) : ∀ (xs : List Fld) (i : Nat), (∀ x ∈ xs, validF x) → i ≤ l.length → (readsF l xs i = true ↔ l.drop i = encFds xs)
  | [], i, _, hi => by
    unfold readsF encFds
    simp only [decide_eq_true_eq, List.flatMap_nil, List.drop_eq_nil_iff]
    omega
  | x :: xs, i, hv, hi => by
    rw [readsF]
    have hx := hv x (List.mem_cons_self ..)
    have hxs := fun y hy => hv y (List.mem_cons_of_mem x hy)
    show _ ↔ l.drop i = encFd x ++ encFds xs
    cases hs : stepF l x i with
    | none =>
      simp only [Bool.false_eq_true, false_iff]
      intro h
      have : stepF l x i = some (i + (encFd x).length) := (stepF_iff l x i _ hx).2 ⟨by rw [drop_of_app h, h], rfl⟩
      rw [hs] at this
      cases this
    | some j =>
      simp only
      obtain ⟨h1, rfl⟩ := (stepF_iff l x i j hx).1 hs
      have hj : i + (encFd x).length ≤ l.length := by
        have := congrArg List.length h1
        rw [List.length_append, List.length_drop, List.length_drop] at this
        have h2 : (encFd x).length ≤ l.length - i := by omega
        omega
      rw [readsF_iff l xs _ hxs hj, h1]
      constructor
      · intro h; rw [h]
      · intro h; exact List.append_cancel_left h

theorem encFd_pos (x : Fld) : 0 < (encFd x).length := by
  unfold encFd
  have he : ∀ n, 0 < (enc n).length := fun n => encLen_pos n
  split
  · exact he _
  · split
    · show 0 < (enc (lb x.2.2).length ++ lb x.2.2).length
      rw [List.length_append]
      have := he (lb x.2.2).length
      omega
    · exact Nat.zero_lt_one
/-- There and back. -/
theorem backF (xs : List Fld) (hv : ∀ x ∈ xs, validF x) : readsF (encFds xs) xs 0 = true := (readsF_iff _ xs 0 hv (Nat.zero_le _)).2 (by simp)
theorem cutF (xs : List Fld) (hv : ∀ x ∈ xs, validF x) (k : Nat) (hk : k < (encFds xs).length) : readsF ((encFds xs).take k) xs 0 = false := by
  cases h : readsF ((encFds xs).take k) xs 0 with
  | false => rfl
  | true =>
    have := (readsF_iff _ xs 0 hv (Nat.zero_le _)).1 h
    have := congrArg List.length this
    simp at this
    omega
end Go.Proofs.YtcockikekgmfkaaDoor
