/-
  Layer 18: states.inRange, states.May.
  Ways of writing, more of them: numbers as Go has them; a way of writing of some things alone. No program in sight.
  Arguments of a statement opened: strings, slices of strings, of bytes, of ints: what they hold, in the words of Reads; and that each is within the form's reach.
  Small lemmas that many texts use.
  Layer 18, the plain part: pends as cells; the Bools that the small functions compute.
  A region that draws its order, whose first operations only read (or call what leaves the world as it was): these are walked once, in the order of the text, by the cheap step of the quiet walk; the rest stands in one forced order.
  Layer 18: the small functions, of the program and of the document.
  Layer 18: lists that rise; equal lists; copies of lists.
  Layer 18: equal lists; copies of lists; the document's rise.
  Layer 18: copies of lists; the document's rise; a state within its ranges.
  Layer 18: a transactional id: whether two are the same; within its ranges; whether it may be.
-/
import Derived.Test.YtbpkckahonmpkaaGreatDoorMlFramesProofP01
import Derived.ProofKit
import Derived.OpenShut
import Derived.ShutString
import Derived.ChangeOld
import Derived.Below
import Derived.SizedLaws
import Derived.SliceStrings
import Derived.StillTailTactics
import Derived.Deep.QuietTactic
import Derived.BigQuiet
import Derived.Test.YtbpkckahonmpkaaGreatDoorChecked
import Derived.Outline
set_option linter.unusedVariables false
set_option linter.unusedSimpArgs false
namespace Go.Proofs.YtbpkckahonmpkaaGreatDoor
open Go.RowKit
/-- A number, as Go has it. -/
def cI (lo hi : Nat) : Cd Int where
  p l := match (cNum lo hi).p l with
    | some (n, r) => some ((n : Int), r)
    | none => none
  e x := enc x.toNat
  v x := 0 ≤ x ∧ (cNum lo hi).v x.toNat
  law l x r := by
    constructor
    · intro h
      split at h
      · rename_i n r' hn
        injection h with h
        injection h with h1 h2
        subst h1; subst h2
        obtain ⟨h3, h4⟩ := (cNum lo hi).only hn
        rw [Int.toNat_natCast]
        exact ⟨⟨by omega, h3⟩, h4⟩
      · cases h
    · rintro ⟨⟨h1, h2⟩, rfl⟩
      have : (cNum lo hi).p (enc x.toNat ++ r) = some (x.toNat, r) := (cNum lo hi).back h2 r
      rw [this]
      simp only
      rw [Int.toNat_of_nonneg h1]
theorem fol_I (lo hi : Nat) : Fol (fun l i b => rdNum l i b lo hi) (cI lo hi) id where
  stop := (fol_num lo hi).stop
  le := (fol_num lo hi).le
  ok l i y r hil h := by
    have e : (cI lo hi).p (l.drop i) = match (cNum lo hi).p (l.drop i) with
      | some (n, r) => some ((n : Int), r)
      | none => none := rfl
    rw [e] at h
    split at h
    · rename_i n r' hn
      injection h with h
      injection h with h1 h2
      subst h1; subst h2
      exact (fol_num lo hi).ok l i n _ hil hn
    · cases h
  no l i hil h := by
    have e : (cI lo hi).p (l.drop i) = match (cNum lo hi).p (l.drop i) with
      | some (n, r) => some ((n : Int), r)
      | none => none := rfl
    rw [e] at h
    split at h
    · cases h
    · rename_i hn
      exact (fol_num lo hi).no l i hil hn
section
variable {α β γ δ : Type}
/-- A way of writing of some things alone. -/
def Cd.emb (c : Cd α) (f : α → β) (g : β → α) (h : ∀ x, c.v x → g (f x) = x) : Cd β where
  p l := match c.p l with
    | some (x, r) => some (f x, r)
    | none => none
  e y := c.e (g y)
  v y := f (g y) = y ∧ c.v (g y)
  law l y r := by
    constructor
    · intro hp
      split at hp
      · rename_i x r' hx
        injection hp with hp
        injection hp with h1 h2
        subst h1; subst h2
        obtain ⟨v1, e1⟩ := c.only hx
        rw [h x v1]
        exact ⟨⟨rfl, v1⟩, e1⟩
      · cases hp
    · rintro ⟨⟨h1, h2⟩, rfl⟩
      rw [c.back h2]
      simp only [h1]
theorem Fol.emb {rd : Rdr α} {c : Cd γ} {k : γ → α} (h : Fol rd c k) (f : γ → β) (g : β → γ) (hg : ∀ x, c.v x → g (f x) = x) (m : α → δ) (n : β → δ) (hm : ∀ x, m (k x) = n (f x)) : Fol (rdMap rd m) (c.emb f g hg) n where
  stop l i := h.stop l i
  le l i b hi := h.le l i b hi
  ok l i y r hi hp := by
    have e : (c.emb f g hg).p (l.drop i) = match c.p (l.drop i) with
      | some (x, r) => some (f x, r)
      | none => none := rfl
    rw [e] at hp
    split at hp
    · rename_i x r1 hx
      injection hp with hp
      injection hp with h3 h4
      subst h3; subst h4
      obtain ⟨j, hj, e1, e2⟩ := h.ok l i x _ hi hx
      exact ⟨j, hj, by unfold rdMap; rw [e1, hm], e2⟩
    · cases hp
  no l i hi hp := by
    have e : (c.emb f g hg).p (l.drop i) = match c.p (l.drop i) with
      | some (x, r) => some (f x, r)
      | none => none := rfl
    rw [e] at hp
    split at hp
    · cases hp
    · rename_i hx
      exact h.no l i hi hx
end

theorem cI_v (lo hi : Nat) (x : Int) (h : hi ≤ 1048577) : (cI lo hi).v x ↔ (lo : Int) ≤ x ∧ x ≤ hi := by
  show 0 ≤ x ∧ (lo ≤ x.toNat ∧ x.toNat ≤ hi ∧ x.toNat ≤ maxNum) ↔ _
  unfold maxNum
  omega

theorem enc_len3x (n : Nat) (h : n < 2097152) : (enc n).length ≤ 3 := by
  have h1 : enc n = encF 2 n := encF_more 2 8 n (by have : (128 : Nat) ^ (2 + 1) = 2097152 := by decide
                                                    rw [this]; omega) (by omega)
  rw [h1]; exact (encF_len 2 n).2
end Go.Proofs.YtbpkckahonmpkaaGreatDoor
namespace Go.Proofs.YtbpkckahonmpkaaGreatDoor
open Go.ChangeShapes Go.WideShapes Go.ChangeAt Go.RowKit

/-- Ints as cells. -/
def cellsI (k : IntKind) (l : List Int) : List Value := l.map (Value.int k)
theorem length_cellsI (k : IntKind) (l : List Int) : (cellsI k l).length = l.length := by simp [cellsI]
theorem getElem?_cellsI (k : IntKind) (l : List Int) (j : Nat) : (cellsI k l)[j]? = (l[j]?).map (Value.int k) := by simp [cellsI]

section
variable {H : Type} {enc : TypeId × Value → H} {P : Program} {W : World} {base : Nat}

theorem block_lt_of_cell {w : World} {a : Addr} {v : Value} (h : w.cell? a = some v) : a.block < w.heap.size := by
  rcases Nat.lt_or_ge a.block w.heap.size with hlt | hge
  · exact hlt
  · unfold World.cell? at h
    rw [Array.getElem?_eq_none hge] at h
    simp at h

end
end Go.Proofs.YtbpkckahonmpkaaGreatDoor
namespace Go.Proofs.YtbpkckahonmpkaaGreatDoor
open Go.RowKit

theorem ret_bool {a b : Bool} (h : a = b) : Ending.returned (.bool a) = .returned (.bool b) := by rw [h]
theorem ret_int {k : IntKind} {a b : Int} (h : a = b) : Ending.returned (.int k a) = .returned (.int k b) := by rw [h]
theorem bal {w w' : World} (h : Below w.heap.size w w') (o : Obj) : Below w.heap.size w (w'.alloc o) := h.alloc h.size o
theorem btrans {w w1 w2 : World} (h : Below w.heap.size w w1) (k : Below w1.heap.size w1 w2) : Below w.heap.size w w2 := h.trans (k.mono h.size)
theorem eqb_false {a b : Int} (h : ¬ a = b) : (a == b) = false := beq_eq_false_iff_ne.2 h
end Go.Proofs.YtbpkckahonmpkaaGreatDoor
namespace Go.Proofs.YtbpkckahonmpkaaGreatDoor
open Go.RowKit

abbrev Pd := Int × Int × Int
def cellsP (l : List Pd) : List Value := l.flatMap fun p => [.int .i64 p.1, .int .i64 p.2.1, .int .i64 p.2.2]
theorem cellsP_cons (p : Pd) (l : List Pd) : cellsP (p :: l) = .int .i64 p.1 :: .int .i64 p.2.1 :: .int .i64 p.2.2 :: cellsP l := by simp [cellsP]
theorem cellsP_append (l m : List Pd) : cellsP (l ++ m) = cellsP l ++ cellsP m := by simp [cellsP]
theorem length_cellsP : ∀ l : List Pd, (cellsP l).length = l.length * 3
  | [] => rfl
  | p :: l => by rw [cellsP_cons, List.length_cons, List.length_cons, List.length_cons, length_cellsP l, List.length_cons]; omega
theorem cellsP_at : ∀ (l : List Pd) (i : Nat) (p : Pd), l[i]? = some p → (cellsP l)[i * 3]? = some (.int .i64 p.1) ∧ (cellsP l)[i * 3 + 1]? = some (.int .i64 p.2.1) ∧ (cellsP l)[i * 3 + 2]? = some (.int .i64 p.2.2)
  | [], i, p, h => by simp at h
  | q :: l, 0, p, h => by
    simp at h
    subst h
    rw [cellsP_cons]
    exact ⟨rfl, rfl, rfl⟩
  | q :: l, i + 1, p, h => by
    have := cellsP_at l i p (by simpa using h)
    rw [cellsP_cons, show (i + 1) * 3 = i * 3 + 1 + 1 + 1 by omega]
    simpa using this
theorem cellsP_one (l : List Pd) : ∀ u ∈ cellsP l, u.oneCell' = true := by
  intro u hu
  simp only [cellsP, List.mem_flatMap] at hu
  obtain ⟨p, _, hu⟩ := hu
  simp at hu
  rcases hu with rfl | rfl | rfl <;> rfl
theorem Reads.plain3 {w : World} {B n : Nat} {A : Option Addr} {l : List Pd} (h : Reads w B 3 A n (cellsP l)) (hn : 0 < n) :
    ∃ b off, A = some ⟨b, off, none⟩ ∧ b < B ∧ ∀ i p, l[i]? = some p → w.cell? ⟨b, off + i * 3, none⟩ = some (.int .i64 p.1) ∧ w.cell? ⟨b, off + i * 3 + 1, none⟩ = some (.int .i64 p.2.1) ∧ w.cell? ⟨b, off + i * 3 + 2, none⟩ = some (.int .i64 p.2.2) := by
  obtain ⟨ad, rfl, hb, hc⟩ := h.2 hn
  obtain ⟨b, off, spot⟩ := ad
  have hl : 0 < (cellsP l).length := by have := h.1; omega
  have h0 := hc 0 _ (List.getElem?_eq_getElem hl)
  have hs : spot = none := by simpa [Addr.add] using World.cell?_spot h0
  subst hs
  refine ⟨b, off, rfl, hb, fun i p hp => ?_⟩
  obtain ⟨h1, h2, h3⟩ := cellsP_at l i p hp
  have k1 := hc _ _ h1
  have k2 := hc _ _ h2
  have k3 := hc _ _ h3
  rw [add_none] at k1 k2 k3
  exact ⟨k1, by rw [Nat.add_assoc]; exact k2, by rw [Nat.add_assoc]; exact k3⟩

def partB (q : Int) : Bool := decide (0 ≤ q) && decide (q < 3)
def pendB (p : Pd) : Bool := decide (0 ≤ p.1) && (decide (p.1 < 2) && (partB p.2.1 && (decide (0 ≤ p.2.2) && decide (p.2.2 ≤ 1048576))))
def aheadB (a b : Pd) : Bool := decide (a.1 < b.1) || (decide (a.1 = b.1) && decide (a.2.1 < b.2.1))
def cmpI (a b : Int) : Int := if a < b then -1 else if b < a then 1 else 0
def orI : List Int → Int
  | [] => 0
  | z :: r => if z = 0 then orI r else z
def plI (a b : Pd) : Int := orI [cmpI a.1 b.1, cmpI a.2.1 b.2.1]
theorem cmpI_neg (a b : Int) : cmpI a b < 0 ↔ a < b := by unfold cmpI; split <;> (try split) <;> omega
theorem cmpI_zero (a b : Int) : cmpI a b = 0 ↔ a = b := by unfold cmpI; split <;> (try split) <;> omega
theorem plI_neg (a b : Pd) : plI a b < 0 ↔ aheadB a b = true := by
  have h1 := cmpI_neg a.1 b.1
  have h2 := cmpI_zero a.1 b.1
  have h3 := cmpI_neg a.2.1 b.2.1
  have h4 := cmpI_zero a.2.1 b.2.1
  simp only [plI, orI, aheadB, Bool.or_eq_true, Bool.and_eq_true, decide_eq_true_eq]
  by_cases h : cmpI a.1 b.1 = 0
  · rw [if_pos h]
    by_cases h' : cmpI a.2.1 b.2.1 = 0
    · rw [if_pos h']; omega
    · rw [if_neg h']; omega
  · rw [if_neg h]; omega

/-- Each item and the next one. -/
def Adj {α : Type} (R : α → α → Prop) (l : List α) (n : Nat) : Prop := ∀ j a b, j + 1 < n → l[j]? = some a → l[j + 1]? = some b → R a b
theorem Adj.one {α : Type} {R : α → α → Prop} {l : List α} {n : Nat} (h : n ≤ 1) : Adj R l n := fun j _ _ hj => by omega
theorem Adj.step {α : Type} {R : α → α → Prop} {l : List α} {n : Nat} {a b : α} (h : Adj R l n) (hn : 1 ≤ n) (ha : l[n - 1]? = some a) (hb : l[n]? = some b) (hr : R a b) : Adj R l (n + 1) := by
  intro j x y hj hx hy
  rcases Nat.lt_or_ge (j + 1) n with h' | h'
  · exact h j x y h' hx hy
  · obtain rfl : j = n - 1 := by omega
    rw [show n - 1 + 1 = n by omega] at hy
    rw [ha] at hx
    rw [hb] at hy
    injection hx with hx
    injection hy with hy
    subst hx; subst hy
    exact hr
theorem Adj.not {α : Type} {R : α → α → Prop} {l : List α} {n : Nat} {a b : α} (hn : 1 ≤ n) (hl : n < l.length) (ha : l[n - 1]? = some a) (hb : l[n]? = some b) (hr : ¬ R a b) : ¬ Adj R l l.length :=
  fun h => hr (h (n - 1) a b (by omega) ha (by rw [show n - 1 + 1 = n by omega]; exact hb))

open Classical in
noncomputable def adjB {α : Type} (R : α → α → Prop) (l : List α) : Bool := decide (Adj R l l.length)
theorem adjB_true {α : Type} {R : α → α → Prop} {l : List α} (h : Adj R l l.length) : adjB R l = true := by unfold adjB; simpa using h
theorem adjB_false {α : Type} {R : α → α → Prop} {l : List α} (h : ¬ Adj R l l.length) : adjB R l = false := by unfold adjB; simpa using h
def ltP (a b : Int) : Prop := a < b
def aheadP (a b : Pd) : Prop := aheadB a b = true
/-- Partitions: rising, the first and the last within bounds. -/
noncomputable def partsB (l : List Int) : Bool := adjB ltP l && (decide (l.length = 0) || (partB (l.getD 0 0) && partB (l.getD (l.length - 1) 0)))
end Go.Proofs.YtbpkckahonmpkaaGreatDoor
namespace Go.Proofs.YtbpkckahonmpkaaGreatDoor
open Go.RowKit

theorem still_of_quiet {P : Program} {o : Oper} {a : Act} {w : World} {K : Act → Prop} (h : o.quiet P a (fun W => W = w) K) : o.still P a w K := by
  obtain ⟨v, h1, h2⟩ := h
  have h3 := h1 w rfl
  unfold Oper.quietAt at h3
  unfold Oper.still
  generalize (execOp a.eval o).run P w = r at *
  cases r with
  | ok n w' =>
    cases n <;> simp only [Oper.quietUpon] at h3 <;> simp only [Oper.stillUpon]
    case value u =>
      obtain ⟨e1, e2⟩ := h3
      rw [e2]
      exact ⟨e1, h2⟩
    case skip =>
      obtain ⟨e1, e2⟩ := h3
      rw [← e2]
      exact ⟨e1, h2⟩
    case enter f args =>
      obtain ⟨e1, hc⟩ := h3
      exact ⟨e1, v, hc, h2⟩
  | halt x w' => simp only [Oper.quietUpon] at h3

theorem wpStill_of_quiet {P : Program} {ops : Array Oper} {w : World} {Q : Act → Prop} : ∀ (l : List Oper) (a : Act), wpQuiet P ops (fun W => W = w) Q l a → wpStill P ops w Q l a
  | [], _, h => h
  | o :: rest, a, h => by
    unfold wpQuiet at h
    unfold wpStill
    split
    · rename_i hw
      rw [if_pos hw] at h
      exact Oper.still_mono (fun a' h' => wpStill_of_quiet rest a' h') (still_of_quiet h)
    · rename_i hw
      rw [if_neg hw] at h
      exact wpStill_of_quiet rest _ h

theorem wp_region_qtail {P : Program} {id : Nat} {Q : Exit → Act → World → Prop} {a : Act} {w : World} {l : List Oper} (n : Nat) (hm : P.follows .mixedOrders = true) (hB : Region.lexTailB .any l.toArray n = true)
    (h : wpQuiet P l.toArray (fun W => W = w.drew) (fun a' => wpList P l.toArray Q (l.drop n) a' w.drew) (l.take n) a) : (Code.region id l.toArray true).wp P Q a w :=
  wp_region_still_tail n hm hB (wpStill_of_quiet _ _ h)
end Go.Proofs.YtbpkckahonmpkaaGreatDoor
namespace Go.Proofs.YtbpkckahonmpkaaGreatDoor
open Go.RowKit

set_option maxHeartbeats 400000 in
theorem isPart_any (q : Int) (w : World) : Calls Tryz.prog 130 #[.int .i64 q] w fun e w' => e = .returned (.bool (partB q)) ∧ w = w' := by
  go_enter Tryz.func130, Tryz.ntmps130
  go_wp2
  all_goals (go_ret; exact ⟨ret_bool (by unfold partB; rw [Bool.eq_iff_iff]; simp; try omega), rfl⟩)

set_option maxHeartbeats 400000 in
theorem isPend_any (p : Pd) (w : World) : Calls Tryz.prog 113 #[.agg #[.int .i64 p.1, .int .i64 p.2.1, .int .i64 p.2.2]] w fun e w' => e = .returned (.bool (pendB p)) ∧ Below w.heap.size w w' := by
  have HB := Lib.hid (fun x => (Below.refl w.heap.size w).alloc (Nat.le_refl _) x)
  go_enter Tryz.func113, Tryz.ntmps113
  go_wp2_with (go_at_call 130; refine (isPart_any _ _).mono ?_; rintro e w1 ⟨rfl, rfl⟩)
  all_goals (go_ret; exact ⟨ret_bool (by unfold pendB; rw [Bool.eq_iff_iff]; simp [*]; try omega), HB.out _⟩)

set_option maxHeartbeats 400000 in
theorem isNaN_any (a : Int) (w : World) : Calls Tryz.prog 141 #[.int .i64 a] w fun e w' => e = .returned (.bool false) ∧ w = w' := by
  go_enter Tryz.func141, Tryz.ntmps141
  go_wp2
  all_goals (go_ret; exact ⟨ret_bool (by simp), rfl⟩)

set_option maxHeartbeats 400000 in
theorem Compare_any (a b : Int) (w : World) : Calls Tryz.prog 132 #[.int .i64 a, .int .i64 b] w fun e w' => e = .returned (.int .i64 (cmpI a b)) ∧ w = w' := by
  go_enter Tryz.func132, Tryz.ntmps132
  go_wp2_with (go_at_call 141; refine (isNaN_any _ _).mono ?_; rintro e w1 ⟨rfl, rfl⟩)
  all_goals (go_ret; exact ⟨ret_int (by unfold cmpI; split <;> (try split) <;> omega), rfl⟩)

set_option maxHeartbeats 400000 in
theorem Or_any (A : Option Addr) (l : List Int) (c B : Nat) (w : World) (hr : Reads w B 1 A l.length (cellsI .i64 l)) (hl : l.length ≤ 1000) :
    Calls Tryz.prog 133 #[.slice A l.length c] w fun e w' => e = .returned (.int .i64 (orI l)) ∧ w = w' := by
  have HR := Lib.hid hr
  clear hr
  go_enter Tryz.func133, Tryz.ntmps133
  go_wp2
  go_loop [8] (fun x => ∃ k : Nat, k ≤ l.length ∧ x = .int .i64 k ∧ orI l = orI (l.drop k)) (fun x => l.length - (intOf x).toNat)
  case atStart => exact ⟨0, Nat.zero_le _, rfl, rfl⟩
  case round =>
    obtain ⟨k, hk, rfl, he⟩ := hrel
    have HE := Lib.hid he
    clear he
    by_cases hlt : k < l.length
    · have d1 : decide ((k : Int) < (l.length : Int)) = true := by simp; omega
      obtain ⟨b1, o1, rfl, _, hc1⟩ := HR.out.plain (by omega)
      obtain ⟨z, hz⟩ : ∃ z, l[k]? = some z := ⟨_, List.getElem?_eq_getElem hlt⟩
      have g1 := hc1 k _ (by rw [getElem?_cellsI, hz]; rfl)
      have hdr : l.drop k = z :: l.drop (k + 1) := by
        rw [List.drop_eq_getElem_cons hlt]
        congr 1
        exact (List.getElem?_eq_some_iff.1 hz).2
      have HD := Lib.hid hdr
      clear hc1 hz hdr
      by_cases h0 : z = 0
      · subst h0
        go_wp2
        go_round
        case rel => exact ⟨k + 1, by omega, by go_num, by rw [HE.out, HD.out]; simp [orI]⟩
        case measure => simp [intOf]; omega
      · have d2 : (z != 0) = true := by simpa using h0
        have hfin : orI l = z := by rw [HE.out, HD.out]; simp [orI, h0]
        have HF := Lib.hid hfin
        clear hfin
        go_wp2
        go_ret
        exact ⟨ret_int HF.out.symm, rfl⟩
    · have d1 : decide ((k : Int) < (l.length : Int)) = false := by simp; omega
      have hfin : orI l = 0 := by rw [HE.out, List.drop_eq_nil_of_le (by omega)]; rfl
      have HF := Lib.hid hfin
      clear hfin
      go_wp2
      go_ret
      exact ⟨ret_int HF.out.symm, rfl⟩

theorem reads_newI (w : World) (t : TypeId) (l : List Int) : Reads (w.alloc (.cells (cellsI .i64 l).toArray t)) (w.heap.size + 1) 1 (some ⟨w.heap.size, 0, none⟩) l.length (cellsI .i64 l) := by
  refine ⟨by rw [length_cellsI]; omega, fun _ => ⟨_, rfl, Nat.lt_succ_self _, fun j u hu => ?_⟩⟩
  rw [add_none, Nat.zero_add]
  have := (Blk.new w t (cellsI .i64 l).toArray).cell j
  rw [this]
  simpa using hu

set_option maxRecDepth 100000 in
set_option maxHeartbeats 400000 in
theorem byPlace_any (a b : Pd) (w : World) : Calls Tryz.prog 116 #[.agg #[.int .i64 a.1, .int .i64 a.2.1, .int .i64 a.2.2], .agg #[.int .i64 b.1, .int .i64 b.2.1, .int .i64 b.2.2]] w fun e w' => e = .returned (.int .i64 (plI a b)) ∧ Below w.heap.size w w' := by
  have HB := Lib.hid (fun x y z => (bal (bal (bal (Below.refl w.heap.size w) x) y) z).drew)
  go_enter Tryz.func116, Tryz.ntmps116
  go_wp2_with fail
  refine wp_region_qtail 10 (by kernel_rfl) (by kernel_rfl) ?_
  simp only [List.take_succ_cons, List.take_zero, List.drop_succ_cons, List.drop_zero]
  repeat (go_big_quiet_step (fail))
  go_big_quiet_want
  go_big_quiet_op
  refine ⟨_, (Compare_any _ _ _).mono (fun _ _ ⟨he, hw⟩ => ⟨he, hw.symm⟩), ?_⟩
  go_big_quiet_on
  repeat (go_big_quiet_step (fail))
  go_big_quiet_want
  go_big_quiet_op
  refine ⟨_, (Compare_any _ _ _).mono (fun _ _ ⟨he, hw⟩ => ⟨he, hw.symm⟩), ?_⟩
  go_big_quiet_on
  repeat (go_big_quiet_step (fail))
  refine wpQuiet_nil ?_
  go_wp2_with fail
  refine (Or_any _ [cmpI a.1 b.1, cmpI a.2.1 b.2.1] 2 _ _ (by simpa [cellsI] using (reads_newI ((w.alloc (.cells #[.int .i64 a.1, .int .i64 a.2.1, .int .i64 a.2.2] 40)).alloc (.cells #[.int .i64 b.1, .int .i64 b.2.1, .int .i64 b.2.2] 40)) 3 [cmpI a.1 b.1, cmpI a.2.1 b.2.1]).drew) (by simp)).mono ?_
  rintro e w1 ⟨rfl, rfl⟩
  go_wp2_with fail
  go_ret
  exact ⟨rfl, HB.out _ _ _⟩
end Go.Proofs.YtbpkckahonmpkaaGreatDoor
namespace Go.Proofs.YtbpkckahonmpkaaGreatDoor
open Go.RowKit

set_option maxRecDepth 100000 in
set_option maxHeartbeats 1000000 in
theorem risingI_any (A : Option Addr) (l : List Int) (c B : Nat) (w : World) (hr : Reads w B 1 A l.length (cellsI .i64 l)) (hl : l.length ≤ 1000000) :
    Calls Tryz.prog 131 #[.slice A l.length c, .func (.func 132) #[] #[]] w fun e w' => e = .returned (.bool (adjB ltP l)) ∧ ∃ q, w' = w.drewN q := by
  have HR := Lib.hid hr
  clear hr
  go_enter Tryz.func131, Tryz.ntmps131
  go_wp2_with fail
  go_loopw [5] (fun x wr => ∃ k q : Nat, 1 ≤ k ∧ (k ≤ l.length ∨ k = 1) ∧ x = .int .i64 k ∧ wr = w.drewN q ∧ Adj ltP l k) (fun x _ => l.length - (intOf x).toNat)
  case atStart => exact ⟨1, 0, Nat.le_refl _, .inr rfl, rfl, rfl, Adj.one (Nat.le_refl _)⟩
  case round =>
    obtain ⟨k, q, hk1, hk, rfl, rfl, hadj⟩ := hrel
    have HADJ := Lib.hid hadj
    clear hadj
    by_cases hlt : k < l.length
    · have d1 : decide ((k : Int) < (l.length : Int)) = true := by simp; omega
      obtain ⟨b1, o1, rfl, _, hc1⟩ := HR.out.plain (by omega)
      obtain ⟨j, rfl⟩ : ∃ j, k = j + 1 := ⟨k - 1, by omega⟩
      obtain ⟨x, hx⟩ : ∃ z, l[j]? = some z := ⟨_, List.getElem?_eq_getElem (by omega)⟩
      obtain ⟨y, hy⟩ : ∃ z, l[j + 1]? = some z := ⟨_, List.getElem?_eq_getElem hlt⟩
      have g1 := hc1 j _ (by rw [getElem?_cellsI, hx]; rfl)
      have g2 := hc1 (j + 1) _ (by rw [getElem?_cellsI, hy]; rfl)
      have e1 : IntKind.i64.wrap (((j + 1 : Nat) : Int) - 1) = (j : Int) := by rw [show ((j + 1 : Nat) : Int) - 1 = (j : Int) by omega]; exact IntWalk.i64_in _ (by omega)
      have i1 : (0 : Int) ≤ (j : Int) := by omega
      have i2 : (j : Int) < (l.length : Int) := by omega
      have i3 : (0 : Int) ≤ ((j + 1 : Nat) : Int) := by omega
      have i4 : ((j + 1 : Nat) : Int) < (l.length : Int) := by omega
      have hstep : ltP x y → Adj ltP l (j + 1 + 1) := fun h => HADJ.out.step (by omega) hx hy h
      have hnot : ¬ ltP x y → adjB ltP l = false := fun h => adjB_false (Adj.not (n := j + 1) (by omega) hlt hx hy h)
      have HST := Lib.hid hstep
      have HNO := Lib.hid hnot
      clear hc1 hx hy hstep hnot
      have hcm := cmpI_neg x y
      by_cases hxy : x < y
      · have d2 : decide (0 ≤ cmpI x y) = false := by simp; omega
        clear hcm
        go_wp2_with fail
        go_quiet ((go_at_call 132; exact quiet_add_left (Compare_any _ _ _)))
        go_wp2_with fail
        go_roundw
        case rel => exact ⟨j + 1 + 1, _, by omega, by omega, by go_num, rfl, HST.out hxy⟩
        case measure => simp [intOf]; omega
      · have d2 : decide (0 ≤ cmpI x y) = true := by simp; omega
        clear hcm
        go_wp2_with fail
        go_quiet ((go_at_call 132; exact quiet_add_left (Compare_any _ _ _)))
        go_wp2_with fail
        go_ret
        exact ⟨ret_bool (HNO.out (by unfold ltP; omega)).symm, _, World.drewN_drewN ..⟩
    · have d1 : decide ((k : Int) < (l.length : Int)) = false := by simp; omega
      have hfin : adjB ltP l = true := adjB_true (by
        rcases hk with hk | hk
        · obtain rfl : k = l.length := by omega
          exact HADJ.out
        · exact Adj.one (by omega))
      have HF := Lib.hid hfin
      clear hfin
      go_wp2_with fail
      go_ret
      exact ⟨ret_bool HF.out.symm, _, rfl⟩

set_option maxRecDepth 100000 in
set_option maxHeartbeats 1000000 in
theorem risingP_any (A : Option Addr) (l : List Pd) (c : Nat) (w : World) (hr : Reads w w.heap.size 3 A l.length (cellsP l)) (hl : l.length ≤ 1000000) :
    Calls Tryz.prog 115 #[.slice A l.length c, .func (.func 116) #[] #[]] w fun e w' => e = .returned (.bool (adjB aheadP l)) ∧ Below w.heap.size w w' := by
  have HR := Lib.hid hr
  clear hr
  go_enter Tryz.func115, Tryz.ntmps115
  go_wp2_with fail
  go_loopw [5] (fun x wr => ∃ k : Nat, 1 ≤ k ∧ (k ≤ l.length ∨ k = 1) ∧ x = .int .i64 k ∧ Below w.heap.size w wr ∧ Adj aheadP l k) (fun x _ => l.length - (intOf x).toNat)
  case atStart => exact ⟨1, Nat.le_refl _, .inr rfl, rfl, Below.refl _ _, Adj.one (Nat.le_refl _)⟩
  case round =>
    obtain ⟨k, hk1, hk, rfl, hbel, hadj⟩ := hrel
    have HADJ := Lib.hid hadj
    have HBEL := Lib.hid hbel
    clear hadj hbel
    by_cases hlt : k < l.length
    · have d1 : decide ((k : Int) < (l.length : Int)) = true := by simp; omega
      obtain ⟨b1, o1, rfl, _, hc1⟩ := (HR.out.below HBEL.out).plain3 (by omega)
      obtain ⟨j, rfl⟩ : ∃ j, k = j + 1 := ⟨k - 1, by omega⟩
      obtain ⟨x, hx⟩ : ∃ z, l[j]? = some z := ⟨_, List.getElem?_eq_getElem (by omega)⟩
      obtain ⟨y, hy⟩ : ∃ z, l[j + 1]? = some z := ⟨_, List.getElem?_eq_getElem hlt⟩
      obtain ⟨g1, g2, g3⟩ := hc1 j _ hx
      obtain ⟨g4, g5, g6⟩ := hc1 (j + 1) _ hy
      have e1 : IntKind.i64.wrap (((j + 1 : Nat) : Int) - 1) = (j : Int) := by rw [show ((j + 1 : Nat) : Int) - 1 = (j : Int) by omega]; exact IntWalk.i64_in _ (by omega)
      have i1 : (0 : Int) ≤ (j : Int) := by omega
      have i2 : (j : Int) < (l.length : Int) := by omega
      have i3 : (0 : Int) ≤ ((j + 1 : Nat) : Int) := by omega
      have i4 : ((j + 1 : Nat) : Int) < (l.length : Int) := by omega
      have hstep : aheadP x y → Adj aheadP l (j + 1 + 1) := fun h => HADJ.out.step (by omega) hx hy h
      have hnot : ¬ aheadP x y → adjB aheadP l = false := fun h => adjB_false (Adj.not (n := j + 1) (by omega) hlt hx hy h)
      have HST := Lib.hid hstep
      have HNO := Lib.hid hnot
      have HBP := Lib.hid (fun W => byPlace_any x y W)
      clear hc1 hx hy hstep hnot
      have hcm := plI_neg x y
      by_cases hxy : aheadB x y = true
      · have d2 : decide (0 ≤ plI x y) = false := by
          have := hcm.2 hxy
          simp; omega
        have HXY := Lib.hid hxy
        clear hcm hxy
        go_wp2_with fail
        refine wp_region_qtail 10 (by kernel_rfl) (by kernel_rfl) ?_
        simp only [List.take_succ_cons, List.take_zero, List.drop_succ_cons, List.drop_zero]
        repeat (go_big_quiet_step (fail))
        refine wpQuiet_nil ?_
        go_wp2_with (go_at_call 116; refine (HBP.out _).mono ?_; rintro e w2 ⟨rfl, hb2⟩)
        go_roundw
        case rel => exact ⟨j + 1 + 1, by omega, by omega, by go_num, btrans HBEL.out.drew hb2, HST.out HXY.out⟩
        case measure => simp [intOf]; omega
      · have d2 : decide (0 ≤ plI x y) = true := by
          have h2 : ¬ plI x y < 0 := fun h => hxy (hcm.1 h)
          simp; omega
        have HXY := Lib.hid hxy
        clear hcm hxy
        go_wp2_with fail
        refine wp_region_qtail 10 (by kernel_rfl) (by kernel_rfl) ?_
        simp only [List.take_succ_cons, List.take_zero, List.drop_succ_cons, List.drop_zero]
        repeat (go_big_quiet_step (fail))
        refine wpQuiet_nil ?_
        go_wp2_with (go_at_call 116; refine (HBP.out _).mono ?_; rintro e w2 ⟨rfl, hb2⟩)
        go_ret
        exact ⟨ret_bool (HNO.out HXY.out).symm, btrans HBEL.out.drew hb2⟩
    · have d1 : decide ((k : Int) < (l.length : Int)) = false := by simp; omega
      have hfin : adjB aheadP l = true := adjB_true (by
        rcases hk with hk | hk
        · obtain rfl : k = l.length := by omega
          exact HADJ.out
        · exact Adj.one (by omega))
      have HF := Lib.hid hfin
      clear hfin
      go_wp2_with fail
      go_ret
      exact ⟨ret_bool HF.out.symm, HBEL.out⟩

set_option maxRecDepth 100000 in
set_option maxHeartbeats 1000000 in
theorem areParts_any (A : Option Addr) (l : List Int) (c B : Nat) (w : World) (hr : Reads w B 1 A l.length (cellsI .i64 l)) (hl : l.length ≤ 1000000) :
    Calls Tryz.prog 114 #[.slice A l.length c] w fun e w' => e = .returned (.bool (partsB l)) ∧ ∃ q, w' = w.drewN q := by
  have HRI := Lib.hid (risingI_any A l c B w hr hl)
  have HR := Lib.hid hr
  clear hr
  by_cases h0 : l.length = 0
  · have hfin : partsB l = adjB ltP l := by unfold partsB; simp [h0]
    have d0 : ((l.length : Int) == 0) = true := by rw [h0]; rfl
    have HF := Lib.hid hfin
    clear hfin h0
    go_enter Tryz.func114, Tryz.ntmps114
    go_wp2_with (go_at_call 131; refine HRI.out.mono ?_; rintro e w1 ⟨rfl, q, rfl⟩)
    all_goals (go_ret; exact ⟨ret_bool (by rw [HF.out]; simp [*]), _, rfl⟩)
  · have d0 : ((l.length : Int) == 0) = false := beq_eq_false_iff_ne.2 (by omega)
    obtain ⟨b1, o1, rfl, _, hc1⟩ := HR.out.plain (by omega)
    have hx : l[0]? = some (l.getD 0 0) := by rw [List.getD_eq_getElem?_getD, List.getElem?_eq_getElem (by omega)]; rfl
    have hy : l[l.length - 1]? = some (l.getD (l.length - 1) 0) := by rw [List.getD_eq_getElem?_getD, List.getElem?_eq_getElem (by omega)]; rfl
    have g1 := hc1 0 _ (by rw [getElem?_cellsI, hx]; rfl)
    rw [Nat.add_zero] at g1
    have g2 := hc1 (l.length - 1) _ (by rw [getElem?_cellsI, hy]; rfl)
    have hfin : partsB l = (adjB ltP l && (partB (l.getD 0 0) && partB (l.getD (l.length - 1) 0))) := by unfold partsB; simp [h0]
    have hlp : 0 < l.length := by omega
    have HF := Lib.hid hfin
    obtain ⟨n, hn⟩ : ∃ n, n = l.length - 1 := ⟨_, rfl⟩
    have hn2 : (l.length : Int) - 1 = (n : Int) := by omega
    rw [← hn] at g2 HF
    have hnl : n < l.length := by omega
    generalize l.getD 0 0 = x at *
    generalize l.getD n 0 = y at *
    generalize adjB ltP l = ab at *
    clear hfin h0 hc1 hx hy hn HR
    have P1 := Lib.hid (fun W => isPart_any x W)
    have P2 := Lib.hid (fun W => isPart_any y W)
    cases hab : ab
    · subst hab
      go_enter Tryz.func114, Tryz.ntmps114
      go_wp2_with (go_at_call 131; refine HRI.out.mono ?_; rintro e w1 ⟨rfl, q, rfl⟩)
      go_ret
      exact ⟨ret_bool (by rw [HF.out]; rfl), _, rfl⟩
    · subst hab
      go_enter Tryz.func114, Tryz.ntmps114
      go_wp2_with (go_at_call 131; refine HRI.out.mono ?_; rintro e w1 ⟨rfl, q, rfl⟩)
      refine (P1.out _).mono ?_
      rintro e w1 ⟨rfl, rfl⟩
      cases hpx : partB x
      · go_wp2_with fail
        go_ret
        exact ⟨ret_bool (by rw [HF.out]; simp [hpx]), _, rfl⟩
      · go_wp2_with fail
        refine (P2.out _).mono ?_
        rintro e w1 ⟨rfl, rfl⟩
        go_wp2_with fail
        go_ret
        exact ⟨ret_bool (by rw [HF.out]; simp [hpx]), _, rfl⟩
end Go.Proofs.YtbpkckahonmpkaaGreatDoor
namespace Go.Proofs.YtbpkckahonmpkaaGreatDoor
open Go.RowKit

theorem eqPend (a b : Pd) (w : World) : (Op.equalIn 10000 40 (.agg #[.int .i64 a.1, .int .i64 a.2.1, .int .i64 a.2.2]) (.agg #[.int .i64 b.1, .int .i64 b.2.1, .int .i64 b.2.2])).run Tryz.prog w = .ok (decide (a = b)) w := by
  have u3 := Tryz.underlying3
  have hS : Tryz.prog.underlying 40 = some (.struct (Tryz.prog.fieldsOf 40)) := by kernel_rfl
  have hp : Tryz.prog.stoodInHeld 40 = false := by kernel_rfl
  have a3 := Tryz.isAgg3
  have z3 := Tryz.sizeOf3
  obtain ⟨a1, a2, a4⟩ := a
  obtain ⟨b1, b2, b4⟩ := b
  rw [show (10000 : Nat) = 9999 + 1 from rfl, run_equalIn_agg w 9999 40 _ _ hS hp]
  simp only [Program.fieldsOf, Tryz.underlying40]
  go_simp
  by_cases h1 : a1 = b1 <;> by_cases h2 : a2 = b2 <;> by_cases h3 : a4 = b4 <;> simp [h1, h2, h3]

set_option maxRecDepth 100000 in
set_option maxHeartbeats 1000000 in
theorem EqualI_any (A1 A2 : Option Addr) (l1 l2 : List Int) (c1 c2 B1 B2 : Nat) (w : World) (h1 : Reads w B1 1 A1 l1.length (cellsI .i64 l1)) (h2 : Reads w B2 1 A2 l2.length (cellsI .i64 l2)) (hl : l1.length ≤ 1000000) :
    Calls Tryz.prog 78 #[.slice A1 l1.length c1, .slice A2 l2.length c2] w fun e w' => e = .returned (.bool (decide (l1 = l2))) ∧ ∃ q, w' = w.drewN q := by
  by_cases hlen : l1.length = l2.length
  · have d0 : ((l1.length : Int) != (l2.length : Int)) = false := by rw [hlen]; simp
    have HH1 := Lib.hid h1
    have HH2 := Lib.hid h2
    have HLEN := Lib.hid hlen
    have hl2 : l1.length ≤ l2.length := by omega
    have hl3 : l2.length ≤ l1.length := by omega
    clear h1 h2 hlen
    go_enter Tryz.func78, Tryz.ntmps78
    go_wp2_with fail
    go_loopw [13] (fun y wr => ∃ k q : Nat, k ≤ l1.length ∧ y = .int .i64 k ∧ wr = w.drewN q ∧ l1.take k = l2.take k) (fun y _ => l1.length - (intOf y).toNat)
    case atStart => exact ⟨0, 0, Nat.zero_le _, rfl, rfl, by simp⟩
    case round =>
      obtain ⟨k, q, hk, rfl, rfl, htk⟩ := hrel
      have HTK := Lib.hid htk
      clear htk
      by_cases hlt : k < l1.length
      · have d1 : decide ((k : Int) < (l1.length : Int)) = true := by simp; omega
        obtain ⟨b1, o1, rfl, _, hc1⟩ := HH1.out.plain (by omega)
        obtain ⟨b2, o2, rfl, _, hc2⟩ := HH2.out.plain (by omega)
        obtain ⟨x, hx⟩ : ∃ z, l1[k]? = some z := ⟨_, List.getElem?_eq_getElem hlt⟩
        obtain ⟨y, hy⟩ : ∃ z, l2[k]? = some z := ⟨_, List.getElem?_eq_getElem (by omega)⟩
        have g1 := hc1 k _ (by rw [getElem?_cellsI, hx]; rfl)
        have g2 := hc2 k _ (by rw [getElem?_cellsI, hy]; rfl)
        have i1 : (0 : Int) ≤ (k : Int) := by omega
        have i2 : (k : Int) < (l1.length : Int) := by omega
        have i3 : (k : Int) < (l2.length : Int) := by omega
        have hts := take_snoc_eq HTK.out hx hy
        have HTS := Lib.hid hts
        have HX := Lib.hid hx
        have HY := Lib.hid hy
        clear hc1 hc2 hx hy hts
        by_cases hxy : x = y
        · subst hxy
          have d2 : (x != x) = false := by simp
          go_wp2_with fail
          go_quiet (fail)
          go_wp2_with fail
          go_roundw
          case rel => exact ⟨k + 1, _, by omega, by go_num, rfl, HTS.out.2 trivial⟩
          case measure => simp [intOf]; omega
        · have d2 : (x != y) = true := by simpa using hxy
          have hne : l1 ≠ l2 := ne_of_at HX.out HY.out hxy
          have hf : decide (l1 = l2) = false := by simpa using hne
          have HF := Lib.hid hf
          clear hne hf hxy
          go_wp2_with fail
          go_quiet (fail)
          go_wp2_with fail
          go_ret
          exact ⟨by rw [HF.out]; rfl, _, World.drewN_drewN ..⟩
      · obtain rfl : k = l1.length := by omega
        have d1 : decide ((l1.length : Int) < (l1.length : Int)) = false := by simp
        have he : l1 = l2 := by
          have h3 := HTK.out
          rw [List.take_length, HLEN.out, List.take_length] at h3
          exact h3
        have hf : decide (l1 = l2) = true := by simpa using he
        have HF := Lib.hid hf
        clear he hf
        go_wp2_with fail
        go_ret
        exact ⟨by rw [HF.out]; rfl, _, rfl⟩
  · have d0 : ((l1.length : Int) != (l2.length : Int)) = true := by simp; omega
    have hne : ¬ l1 = l2 := fun h => hlen (by rw [h])
    have hf : decide (l1 = l2) = false := by simpa using hne
    have HF := Lib.hid hf
    clear hf hne hlen h1 h2
    go_enter Tryz.func78, Tryz.ntmps78
    go_wp2_with fail
    go_ret
    exact ⟨by rw [HF.out]; rfl, 0, rfl⟩

set_option maxRecDepth 100000 in
set_option maxHeartbeats 1000000 in
theorem EqualP_any (A1 A2 : Option Addr) (l1 l2 : List Pd) (c1 c2 B1 B2 : Nat) (w : World) (h1 : Reads w B1 3 A1 l1.length (cellsP l1)) (h2 : Reads w B2 3 A2 l2.length (cellsP l2)) (hl : l1.length ≤ 1000000) :
    Calls Tryz.prog 79 #[.slice A1 l1.length c1, .slice A2 l2.length c2] w fun e w' => e = .returned (.bool (decide (l1 = l2))) ∧ ∃ q, w' = w.drewN q := by
  have hm : Tryz.prog.eqGuardType Tryz.prog.depth 40 = false := by kernel_rfl
  by_cases hlen : l1.length = l2.length
  · have d0 : ((l1.length : Int) != (l2.length : Int)) = false := by rw [hlen]; simp
    have HH1 := Lib.hid h1
    have HH2 := Lib.hid h2
    have HLEN := Lib.hid hlen
    have hl2 : l1.length ≤ l2.length := by omega
    have hl3 : l2.length ≤ l1.length := by omega
    clear h1 h2 hlen
    go_enter Tryz.func79, Tryz.ntmps79
    go_wp2_with fail
    go_loopw [13] (fun y wr => ∃ k q : Nat, k ≤ l1.length ∧ y = .int .i64 k ∧ wr = w.drewN q ∧ l1.take k = l2.take k) (fun y _ => l1.length - (intOf y).toNat)
    case atStart => exact ⟨0, 0, Nat.zero_le _, rfl, rfl, by simp⟩
    case round =>
      obtain ⟨k, q, hk, rfl, rfl, htk⟩ := hrel
      have HTK := Lib.hid htk
      clear htk
      by_cases hlt : k < l1.length
      · have d1 : decide ((k : Int) < (l1.length : Int)) = true := by simp; omega
        obtain ⟨b1, o1, rfl, _, hc1⟩ := HH1.out.plain3 (by omega)
        obtain ⟨b2, o2, rfl, _, hc2⟩ := HH2.out.plain3 (by omega)
        obtain ⟨x, hx⟩ : ∃ z, l1[k]? = some z := ⟨_, List.getElem?_eq_getElem hlt⟩
        obtain ⟨y, hy⟩ : ∃ z, l2[k]? = some z := ⟨_, List.getElem?_eq_getElem (by omega)⟩
        obtain ⟨g1, g2, g3⟩ := hc1 k _ hx
        obtain ⟨g4, g5, g6⟩ := hc2 k _ hy
        have heq := fun W => eqPend x y W
        have i1 : (0 : Int) ≤ (k : Int) := by omega
        have i2 : (k : Int) < (l1.length : Int) := by omega
        have i3 : (k : Int) < (l2.length : Int) := by omega
        have hts := take_snoc_eq HTK.out hx hy
        have HTS := Lib.hid hts
        have HX := Lib.hid hx
        have HY := Lib.hid hy
        clear hc1 hc2 hx hy hts
        by_cases hxy : x = y
        · have HXY := Lib.hid hxy
          rw [decide_eq_true hxy] at heq
          clear hxy
          go_wp2_with fail
          go_quiet (fail)
          go_wp2_with fail
          go_roundw
          case rel => exact ⟨k + 1, _, by omega, by go_num, rfl, HTS.out.2 HXY.out⟩
          case measure => simp [intOf]; omega
        · rw [decide_eq_false hxy] at heq
          have hne : l1 ≠ l2 := ne_of_at HX.out HY.out hxy
          have hf : decide (l1 = l2) = false := by simpa using hne
          have HF := Lib.hid hf
          clear hne hf hxy
          go_wp2_with fail
          go_quiet (fail)
          go_wp2_with fail
          go_ret
          exact ⟨by rw [HF.out]; rfl, _, World.drewN_drewN ..⟩
      · obtain rfl : k = l1.length := by omega
        have d1 : decide ((l1.length : Int) < (l1.length : Int)) = false := by simp
        have he : l1 = l2 := by
          have h3 := HTK.out
          rw [List.take_length, HLEN.out, List.take_length] at h3
          exact h3
        have hf : decide (l1 = l2) = true := by simpa using he
        have HF := Lib.hid hf
        clear he hf
        go_wp2_with fail
        go_ret
        exact ⟨by rw [HF.out]; rfl, _, rfl⟩
  · have d0 : ((l1.length : Int) != (l2.length : Int)) = true := by simp; omega
    have hne : ¬ l1 = l2 := fun h => hlen (by rw [h])
    have hf : decide (l1 = l2) = false := by simpa using hne
    have HF := Lib.hid hf
    clear hf hne hlen h1 h2
    go_enter Tryz.func79, Tryz.ntmps79
    go_wp2_with fail
    go_ret
    exact ⟨by rw [HF.out]; rfl, 0, rfl⟩
end Go.Proofs.YtbpkckahonmpkaaGreatDoor
namespace Go.Proofs.YtbpkckahonmpkaaGreatDoor
open Go.RowKit

/-- A slice with an element lies from a block on. -/
def NewAt (lo n : Nat) (A : Option Addr) : Prop := 0 < n → ∃ ad, A = some ad ∧ lo ≤ ad.block
theorem NewAt.none_ {lo : Nat} {A : Option Addr} : NewAt lo 0 A := fun h => by omega
theorem NewAt.mono {lo lo' n : Nat} {A : Option Addr} (h : NewAt lo n A) (hl : lo' ≤ lo) : NewAt lo' n A := fun hn => by
  obtain ⟨ad, e, hb⟩ := h hn
  exact ⟨ad, e, by omega⟩
end Go.Proofs.YtbpkckahonmpkaaGreatDoor
namespace Go.Proofs.YtbpkckahonmpkaaGreatDoor
open Go.RowKit

structure Co where
  st : Int
  pid : Int
  ep : Int
  tm : Int
  th : Int
  ps : List Int
  qs : List Pd
  ag : Int

def Co0 : Co := ⟨0, 0, 0, 0, 0, [], [], 0⟩
/-- Its lists, as they lie in memory. -/
def CoR (w : World) (B : Nat) (c : Co) (A D : Option Addr) : Prop :=
  Reads w B 1 A c.ps.length (cellsI .i64 c.ps) ∧ Reads w B 3 D c.qs.length (cellsP c.qs) ∧ c.ps.length ≤ 1000 ∧ c.qs.length ≤ 1000
theorem CoR.below {w w' : World} {B : Nat} {c : Co} {A D : Option Addr} (h : CoR w B c A D) (hb : Below B w w') : CoR w' B c A D := ⟨h.1.below hb, h.2.1.below hb, h.2.2⟩
theorem CoR.more {w : World} {B B' : Nat} {c : Co} {A D : Option Addr} (h : CoR w B c A D) (hb : B ≤ B') : CoR w B' c A D := ⟨h.1.more hb, h.2.1.more hb, h.2.2⟩
theorem CoR.up {w w' : World} {c : Co} {A D : Option Addr} (h : CoR w w.heap.size c A D) (hb : Below w.heap.size w w') : CoR w' w'.heap.size c A D := (h.below hb).more hb.size
theorem CoR.zero (w : World) (B : Nat) (A D : Option Addr) : CoR w B Co0 A D := ⟨Reads.none_, Reads.none_, by decide, by decide⟩

def sameB (c d : Co) : Bool := (c.st == d.st) && ((c.pid == d.pid) && ((c.ep == d.ep) && ((c.tm == d.tm) && ((c.th == d.th) && ((c.ag == d.ag) && (decide (c.ps = d.ps) && decide (c.qs = d.qs)))))))
noncomputable def rangeB (c : Co) : Bool := c.qs.all pendB && (decide (1 ≤ c.pid) && (decide (c.pid ≤ 8) && (decide (0 ≤ c.ep) && (decide (c.ep ≤ 100) && (decide (1 ≤ c.tm) && (decide (c.tm ≤ 20) && (decide (0 ≤ c.ag) && (decide (c.ag ≤ 1048576) && (partsB c.ps && adjB aheadP c.qs)))))))))

set_option maxRecDepth 100000 in
set_option maxHeartbeats 1000000 in
theorem Same_any (c d : Co) (A1 D1 : Option Addr) (c1 e1 : Nat) (A2 D2 : Option Addr) (c2 e2 : Nat) (B1 B2 : Nat) (w : World) (h1 : CoR w B1 c A1 D1) (h2 : CoR w B2 d A2 D2) (hB1 : B1 ≤ w.heap.size) (hB2 : B2 ≤ w.heap.size) :
    Calls Tryz.prog 49 #[(.agg #[.int .i8 c.st, .int .i64 c.pid, .int .i64 c.ep, .int .i64 c.tm, .int .i64 c.th, .slice A1 c.ps.length c1, .slice D1 c.qs.length e1, .int .i64 c.ag]), (.agg #[.int .i8 d.st, .int .i64 d.pid, .int .i64 d.ep, .int .i64 d.tm, .int .i64 d.th, .slice A2 d.ps.length c2, .slice D2 d.qs.length e2, .int .i64 d.ag])] w fun e w' => e = .returned (.bool (sameB c d)) ∧ Below w.heap.size w w' := by
  obtain ⟨r1, q1, n1, m1⟩ := h1
  obtain ⟨r2, q2, n2, m2⟩ := h2
  have HB := Lib.hid (fun x y => bal (bal (Below.refl w.heap.size w) x) y)
  have HE := Lib.hid (fun x y => EqualI_any A1 A2 c.ps d.ps c1 c2 B1 B2 ((w.alloc x).alloc y) ((r1.alloc hB1 _).alloc (by simp; omega) _) ((r2.alloc hB2 _).alloc (by simp; omega) _) (by omega))
  have HQ := Lib.hid (fun x y (q : Nat) => EqualP_any D1 D2 c.qs d.qs e1 e2 B1 B2 (((w.alloc x).alloc y).drewN q) (((q1.alloc hB1 _).alloc (by simp; omega) _).drewN q) (((q2.alloc hB2 _).alloc (by simp; omega) _).drewN q) (by omega))
  have hs : sameB c d = ((c.st == d.st) && ((c.pid == d.pid) && ((c.ep == d.ep) && ((c.tm == d.tm) && ((c.th == d.th) && ((c.ag == d.ag) && (decide (c.ps = d.ps) && decide (c.qs = d.qs)))))))) := rfl
  generalize decide (c.ps = d.ps) = bp at *
  generalize decide (c.qs = d.qs) = bq at *
  have HS := Lib.hid hs
  clear r1 q1 r2 q2 hs
  go_enter Tryz.func49, Tryz.ntmps49
  go_wp2_with (first | (go_at_call 78; refine (HE.out _ _).mono ?_; rintro e w1 ⟨rfl, qa, rfl⟩) | (go_at_call 79; refine (HQ.out _ _ _).mono ?_; rintro e w1 ⟨rfl, qb, rfl⟩))
  all_goals go_ret
  all_goals refine ⟨ret_bool (by rw [HS.out]; simp [*]), ?_⟩
  all_goals first | exact HB.out _ _ | exact below_drewN (HB.out _ _) _ | exact below_drewN (below_drewN (HB.out _ _) _) _
end Go.Proofs.YtbpkckahonmpkaaGreatDoor
namespace Go.Proofs.YtbpkckahonmpkaaGreatDoor
open Go.RowKit

theorem all_take_succ {l : List Pd} {k : Nat} {x : Pd} (hx : l[k]? = some x) (h : (l.take k).all pendB = true) (hp : pendB x = true) : (l.take (k + 1)).all pendB = true := by
  rw [List.take_add_one, hx, List.all_append, h]
  simp [hp]
theorem all_not {l : List Pd} {k : Nat} {x : Pd} (hx : l[k]? = some x) (hp : pendB x = false) : l.all pendB = false := by
  rw [List.all_eq_false]
  exact ⟨x, List.mem_of_getElem? hx, by simp [hp]⟩

set_option maxRecDepth 100000 in
set_option maxHeartbeats 1000000 in
theorem inRange_any (c : Co) (A1 D1 : Option Addr) (c1 e1 : Nat) (B : Nat) (w : World) (h1 : CoR w B c A1 D1) (hB : B ≤ w.heap.size) :
    Calls Tryz.prog 72 #[(.agg #[.int .i8 c.st, .int .i64 c.pid, .int .i64 c.ep, .int .i64 c.tm, .int .i64 c.th, .slice A1 c.ps.length c1, .slice D1 c.qs.length e1, .int .i64 c.ag])] w fun e w' => e = .returned (.bool (rangeB c)) ∧ Below w.heap.size w w' := by
  obtain ⟨r1, q1, n1, m1⟩ := h1
  have R1 := Lib.hid (r1.more hB)
  have Q1 := Lib.hid (q1.more hB)
  clear r1 q1
  have hb0 : Below w.heap.size w (w.alloc (.cells #[.int .i8 c.st, .int .i64 c.pid, .int .i64 c.ep, .int .i64 c.tm, .int .i64 c.th, .slice A1 c.ps.length c1, .slice D1 c.qs.length e1, .int .i64 c.ag] 29)) := bal (Below.refl _ _) _
  have bk0 := Blk.new w 29 #[.int .i8 c.st, .int .i64 c.pid, .int .i64 c.ep, .int .i64 c.tm, .int .i64 c.th, .slice A1 c.ps.length c1, .slice D1 c.qs.length e1, .int .i64 c.ag]
  have HB0 := Lib.hid hb0
  have HK0 := Lib.hid bk0
  have hs : rangeB c = (c.qs.all pendB && (decide (1 ≤ c.pid) && (decide (c.pid ≤ 8) && (decide (0 ≤ c.ep) && (decide (c.ep ≤ 100) && (decide (1 ≤ c.tm) && (decide (c.tm ≤ 20) && (decide (0 ≤ c.ag) && (decide (c.ag ≤ 1048576) && (partsB c.ps && adjB aheadP c.qs)))))))))) := rfl
  have HS := Lib.hid hs
  clear hb0 bk0 hs
  go_enter Tryz.func72, Tryz.ntmps72
  go_wp2_with fail
  go_loopw [8] (fun x wr => ∃ k : Nat, k ≤ c.qs.length ∧ x = .int .i64 k ∧ (c.qs.take k).all pendB = true ∧ Below w.heap.size w wr ∧ w.heap.size < wr.heap.size ∧ Blk wr w.heap.size 29 #[.int .i8 c.st, .int .i64 c.pid, .int .i64 c.ep, .int .i64 c.tm, .int .i64 c.th, .slice A1 c.ps.length c1, .slice D1 c.qs.length e1, .int .i64 c.ag]) (fun x _ => c.qs.length - (intOf x).toNat)
  case atStart => exact ⟨0, Nat.zero_le _, rfl, by simp, HB0.out, by simp, HK0.out⟩
  case round =>
    obtain ⟨k, hk, rfl, hall, hbel, hsz, hblk⟩ := hrel
    have HALL := Lib.hid hall
    have HBEL := Lib.hid hbel
    have HBLK := Lib.hid hblk
    clear hall hbel hblk
    by_cases hlt : k < c.qs.length
    · have d1 : decide ((k : Int) < (c.qs.length : Int)) = true := by simp; omega
      obtain ⟨b1, o1, rfl, _, hc1⟩ := (Q1.out.below HBEL.out).plain3 (by omega)
      obtain ⟨x, hx⟩ : ∃ z, c.qs[k]? = some z := ⟨_, List.getElem?_eq_getElem hlt⟩
      obtain ⟨g1, g2, g3⟩ := hc1 k _ hx
      have HX := Lib.hid hx
      have HP := Lib.hid (fun W => isPend_any x W)
      clear hc1 hx
      go_wp2_with fail
      refine (HP.out _).mono ?_
      rintro e w2 ⟨rfl, b2⟩
      have b3 := btrans (bal HBEL.out (.cells #[.int .i64 x.1, .int .i64 x.2.1, .int .i64 x.2.2] 40)) b2
      have hz3 := b2.size
      rw [World.size_alloc] at hz3
      have B3 := Lib.hid b3
      have BK3 := Lib.hid ((HBLK.out.alloc (.cells #[.int .i64 x.1, .int .i64 x.2.1, .int .i64 x.2.2] 40)).below b2 (by simp; omega))
      clear b2 b3
      cases hpx : pendB x
      · have HF := Lib.hid (show rangeB c = false by rw [HS.out, all_not HX.out hpx]; rfl)
        clear hpx
        go_wp2_with fail
        go_ret
        exact ⟨ret_bool HF.out.symm, B3.out⟩
      · have HN := Lib.hid (all_take_succ HX.out HALL.out hpx)
        clear hpx
        go_wp2_with fail
        go_roundw
        case rel => exact ⟨k + 1, by omega, by go_num, HN.out, B3.out, by omega, BK3.out⟩
        case measure => simp [intOf]; omega
    · obtain rfl : k = c.qs.length := by omega
      have d1 : decide ((c.qs.length : Int) < (c.qs.length : Int)) = false := by simp
      have g1 := HBLK.out.cell 1
      have g2 := HBLK.out.cell 2
      have g3 := HBLK.out.cell 3
      have g5 := HBLK.out.cell 5
      have g6 := HBLK.out.cell 6
      have g7 := HBLK.out.cell 7
      have hall := HALL.out
      rw [List.take_length] at hall
      have HA := Lib.hid hall
      have HAP := Lib.hid (areParts_any A1 c.ps c1 w.heap.size wr (R1.out.below HBEL.out) (by omega))
      have HRP := Lib.hid (fun q => risingP_any D1 c.qs e1 (wr.drewN q) (((Q1.out.below HBEL.out).more HBEL.out.size).drewN q) (by omega))
      clear hall
      generalize partsB c.ps = bp at *
      generalize adjB aheadP c.qs = bq at *
      go_wp2_with (first | (go_at_call 114; refine HAP.out.mono ?_; rintro e w1 ⟨rfl, qa, rfl⟩) | (go_at_call 115; refine (HRP.out _).mono ?_; rintro e w1 ⟨rfl, hbr⟩))
      all_goals go_ret
      all_goals refine ⟨ret_bool (by rw [HS.out, HA.out]; simp [*] <;> (intros; omega)), ?_⟩
      all_goals first | exact HBEL.out | exact below_drewN HBEL.out _ | exact btrans (below_drewN HBEL.out _) hbr
end Go.Proofs.YtbpkckahonmpkaaGreatDoor
