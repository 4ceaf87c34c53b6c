/-
  Layer 18, the plain part: pends as cells; the Bools that the small functions compute.
-/
import Derived.Test.YtcockikekgmfkaaDoorWords
import Derived.Test.YtcockikekgmfkaaDoorOpen
import Derived.Test.YtcockikekgmfkaaDoorSm
namespace Go.Proofs.YtcockikekgmfkaaDoor
open Go.RowKit

abbrev Pd := Int × Int × Int
def cellsP (l : List Pd) : List Value := l.flatMap fun p => [.int .i64 p.1, .int .i64 p.2.1, .int .i64 p.2.2]
theorem cellsP_cons (p : Pd) (l : List Pd) : cellsP (p :: l) = .int .i64 p.1 :: .int .i64 p.2.1 :: .int .i64 p.2.2 :: cellsP l := by simp [cellsP]
theorem cellsP_append (l m : List Pd) : cellsP (l ++ m) = cellsP l ++ cellsP m := by simp [cellsP]
theorem length_cellsP : ∀ l : List Pd, (cellsP l).length = l.length * 3
  | [] => rfl
  | p :: l => by rw [cellsP_cons, List.length_cons, List.length_cons, List.length_cons, length_cellsP l, List.length_cons]; omega
theorem cellsP_at : ∀ (l : List Pd) (i : Nat) (p : Pd), l[i]? = some p → (cellsP l)[i * 3]? = some (.int .i64 p.1) ∧ (cellsP l)[i * 3 + 1]? = some (.int .i64 p.2.1) ∧ (cellsP l)[i * 3 + 2]? = some (.int .i64 p.2.2)
  | [], i, p, h => by simp at h
  | q :: l, 0, p, h => by
    simp at h
    subst h
    rw [cellsP_cons]
    exact ⟨rfl, rfl, rfl⟩
  | q :: l, i + 1, p, h => by
    have := cellsP_at l i p (by simpa using h)
    rw [cellsP_cons, show (i + 1) * 3 = i * 3 + 1 + 1 + 1 by omega]
    simpa using this
theorem cellsP_one (l : List Pd) : ∀ u ∈ cellsP l, u.oneCell' = true := by
  intro u hu
  simp only [cellsP, List.mem_flatMap] at hu
  obtain ⟨p, _, hu⟩ := hu
  simp at hu
  rcases hu with rfl | rfl | rfl <;> rfl
theorem cellsI_one (l : List Int) : ∀ u ∈ cellsI .i64 l, u.oneCell' = true := by
  intro u hu
  simp only [cellsI, List.mem_map] at hu
  obtain ⟨b, _, rfl⟩ := hu
  rfl

theorem Reads.plain3 {w : World} {B n : Nat} {A : Option Addr} {l : List Pd} (h : Reads w B 3 A n (cellsP l)) (hn : 0 < n) :
    ∃ b off, A = some ⟨b, off, none⟩ ∧ b < B ∧ ∀ i p, l[i]? = some p → w.cell? ⟨b, off + i * 3, none⟩ = some (.int .i64 p.1) ∧ w.cell? ⟨b, off + i * 3 + 1, none⟩ = some (.int .i64 p.2.1) ∧ w.cell? ⟨b, off + i * 3 + 2, none⟩ = some (.int .i64 p.2.2) := by
  obtain ⟨ad, rfl, hb, hc⟩ := h.2 hn
  obtain ⟨b, off, spot⟩ := ad
  have hl : 0 < (cellsP l).length := by have := h.1; omega
  have h0 := hc 0 _ (List.getElem?_eq_getElem hl)
  have hs : spot = none := by simpa [Addr.add] using World.cell?_spot h0
  subst hs
  refine ⟨b, off, rfl, hb, fun i p hp => ?_⟩
  obtain ⟨h1, h2, h3⟩ := cellsP_at l i p hp
  have k1 := hc _ _ h1
  have k2 := hc _ _ h2
  have k3 := hc _ _ h3
  rw [add_none] at k1 k2 k3
  exact ⟨k1, by rw [Nat.add_assoc]; exact k2, by rw [Nat.add_assoc]; exact k3⟩

/-- Small tests. -/
def inB (n a b : Int) : Bool := decide (a ≤ n) && decide (n ≤ b)
def partB (q : Int) : Bool := decide (0 ≤ q) && decide (q < 3)
def pendB (p : Pd) : Bool := decide (0 ≤ p.1) && (decide (p.1 < 2) && (partB p.2.1 && (decide (0 ≤ p.2.2) && decide (p.2.2 ≤ 1048576))))
def aheadB (a b : Pd) : Bool := decide (a.1 < b.1) || (decide (a.1 = b.1) && decide (a.2.1 < b.2.1))
def cmpI (a b : Int) : Int := if a < b then -1 else if b < a then 1 else 0
def orI : List Int → Int
  | [] => 0
  | z :: r => if z = 0 then orI r else z
def plI (a b : Pd) : Int := orI [cmpI a.1 b.1, cmpI a.2.1 b.2.1]
theorem cmpI_neg (a b : Int) : cmpI a b < 0 ↔ a < b := by unfold cmpI; split <;> (try split) <;> omega
theorem cmpI_zero (a b : Int) : cmpI a b = 0 ↔ a = b := by unfold cmpI; split <;> (try split) <;> omega
theorem cmpI_bd (a b : Int) : -1 ≤ cmpI a b ∧ cmpI a b ≤ 1 := by unfold cmpI; split <;> (try split) <;> omega
theorem plI_neg (a b : Pd) : plI a b < 0 ↔ aheadB a b = true := by
  have h1 := cmpI_neg a.1 b.1
  have h2 := cmpI_zero a.1 b.1
  have h3 := cmpI_neg a.2.1 b.2.1
  have h4 := cmpI_zero a.2.1 b.2.1
  simp only [plI, orI, aheadB, Bool.or_eq_true, Bool.and_eq_true, decide_eq_true_eq]
  by_cases h : cmpI a.1 b.1 = 0
  · rw [if_pos h]
    by_cases h' : cmpI a.2.1 b.2.1 = 0
    · rw [if_pos h']; omega
    · rw [if_neg h']; omega
  · rw [if_neg h]; omega

/-- Each item and the next one. -/
def Adj {α : Type} (R : α → α → Prop) (l : List α) (n : Nat) : Prop := ∀ j a b, j + 1 < n → l[j]? = some a → l[j + 1]? = some b → R a b
theorem Adj.one {α : Type} {R : α → α → Prop} {l : List α} {n : Nat} (h : n ≤ 1) : Adj R l n := fun j _ _ hj => by omega
theorem Adj.step {α : Type} {R : α → α → Prop} {l : List α} {n : Nat} {a b : α} (h : Adj R l n) (hn : 1 ≤ n) (ha : l[n - 1]? = some a) (hb : l[n]? = some b) (hr : R a b) : Adj R l (n + 1) := by
  intro j x y hj hx hy
  rcases Nat.lt_or_ge (j + 1) n with h' | h'
  · exact h j x y h' hx hy
  · obtain rfl : j = n - 1 := by omega
    rw [show n - 1 + 1 = n by omega] at hy
    rw [ha] at hx
    rw [hb] at hy
    injection hx with hx
    injection hy with hy
    subst hx; subst hy
    exact hr
theorem Adj.not {α : Type} {R : α → α → Prop} {l : List α} {n : Nat} {a b : α} (hn : 1 ≤ n) (hl : n < l.length) (ha : l[n - 1]? = some a) (hb : l[n]? = some b) (hr : ¬ R a b) : ¬ Adj R l l.length :=
  fun h => hr (h (n - 1) a b (by omega) ha (by rw [show n - 1 + 1 = n by omega]; exact hb))

open Classical in
noncomputable def adjB {α : Type} (R : α → α → Prop) (l : List α) : Bool := decide (Adj R l l.length)
theorem adjB_true {α : Type} {R : α → α → Prop} {l : List α} (h : Adj R l l.length) : adjB R l = true := by unfold adjB; simpa using h
theorem adjB_false {α : Type} {R : α → α → Prop} {l : List α} (h : ¬ Adj R l l.length) : adjB R l = false := by unfold adjB; simpa using h
def ltP (a b : Int) : Prop := a < b
def aheadP (a b : Pd) : Prop := aheadB a b = true
/-- Partitions: rising, the first and the last within bounds. -/
noncomputable def partsB (l : List Int) : Bool := adjB ltP l && (decide (l.length = 0) || (partB (l.getD 0 0) && partB (l.getD (l.length - 1) 0)))
end Go.Proofs.YtcockikekgmfkaaDoor
