/-
  Layer 20: words for a state that is moved in place; what an entry leads to, kind by kind.
  Layer 18, plain: what a move that is done leads to.
  Layer 20, in plain words: the state behind an entry of a coordinator's log, or what is wrong.
  An entry of a coordinator's log in memory, and one that is made of it field by field: what is stored.
-/
import Derived.Test.YtbpkckahonmpkaaDoorMeBackProofP11
set_option linter.unusedVariables false
set_option linter.unusedSimpArgs false
namespace Go.Proofs.YtbpkckahonmpkaaDoor
open Go.RowKit

theorem adj_pw {α : Type} {R : α → α → Prop} (htr : ∀ a b c, R a b → R b c → R a c) {l : List α} (h : Adj R l l.length) : l.Pairwise R := by
  rw [List.pairwise_iff_getElem]
  intro i j hi hj hij
  obtain ⟨d, rfl⟩ : ∃ d, j = i + d + 1 := ⟨j - i - 1, by omega⟩
  induction d with
  | zero => exact h i _ _ (by omega) (List.getElem?_eq_getElem hi) (List.getElem?_eq_getElem hj)
  | succ d ih => exact htr _ _ _ (ih (by omega) (by omega)) (h (i + d + 1) _ _ (by omega) (List.getElem?_eq_getElem (by omega)) (List.getElem?_eq_getElem hj))
theorem pw_adj {α : Type} {R : α → α → Prop} {l : List α} (h : l.Pairwise R) : Adj R l l.length := by
  rw [List.pairwise_iff_getElem] at h
  intro j a b hj ha hb
  obtain ⟨h1, rfl⟩ := List.getElem?_eq_some_iff.1 ha
  obtain ⟨h2, rfl⟩ := List.getElem?_eq_some_iff.1 hb
  exact h j (j + 1) h1 h2 (Nat.lt_succ_self _)
theorem posF_cons {α : Type} (f : α → Int) (a : α) (t : List α) : posF f (a :: t) = if f a < 0 then posF f t + 1 else 0 := by
  unfold posF
  by_cases h : f a < 0 <;> simp [List.takeWhile_cons, h]
theorem keepF_nil {α : Type} (f : α → Int) (x : α) : keepF f [] x = [x] := rfl
theorem keepF_cons {α : Type} (f : α → Int) (a : α) (t : List α) (x : α) : keepF f (a :: t) x = if f a < 0 then a :: keepF f t x else if f a = 0 then x :: t else x :: a :: t := by
  by_cases h : f a < 0
  · rw [if_pos h]
    unfold keepF
    rw [posF_cons, if_pos h, List.getElem?_cons_succ]
    cases t[posF f t]? with
    | none => simp
    | some y => by_cases hy : f y = 0 <;> simp [hy]
  · rw [if_neg h]
    unfold keepF
    rw [posF_cons, if_neg h, List.getElem?_cons_zero]
    by_cases hy : f a = 0 <;> simp [hy]
theorem keepF_mem {α : Type} (f : α → Int) (x : α) : ∀ (l : List α) (y : α), y ∈ keepF f l x → y = x ∨ y ∈ l
  | [], y, h => by rw [keepF_nil] at h; simpa using h
  | a :: t, y, h => by
    rw [keepF_cons] at h
    by_cases ha : f a < 0
    · rw [if_pos ha] at h
      rcases List.mem_cons.1 h with h | h
      · exact .inr (by rw [h]; exact List.mem_cons_self)
      · rcases keepF_mem f x t y h with h | h
        · exact .inl h
        · exact .inr (List.mem_cons_of_mem _ h)
    · rw [if_neg ha] at h
      by_cases h0 : f a = 0
      · rw [if_pos h0] at h
        rcases List.mem_cons.1 h with h | h
        · exact .inl h
        · exact .inr (List.mem_cons_of_mem _ h)
      · rw [if_neg h0] at h
        rcases List.mem_cons.1 h with h | h
        · exact .inl h
        · exact .inr h
theorem keepF_self {α : Type} (f : α → Int) (x : α) : ∀ l : List α, x ∈ keepF f l x
  | [] => by rw [keepF_nil]; simp
  | a :: t => by
    rw [keepF_cons]
    split
    · exact List.mem_cons_of_mem _ (keepF_self f x t)
    · split <;> exact List.mem_cons_self
theorem keepF_ne {α : Type} (f : α → Int) (x : α) (l : List α) : ¬ (keepF f l x).length = 0 := by
  intro h
  have := keepF_self f x l
  rw [List.eq_nil_of_length_eq_zero h] at this
  cases this
theorem keepF_pw {α : Type} {R : α → α → Prop} (htr : ∀ a b c, R a b → R b c → R a c) {f : α → Int} {x : α} (hlt : ∀ y, f y < 0 → R y x) (hgt : ∀ y, 0 < f y → R x y) (h0 : ∀ y b, f y = 0 → R y b → R x b) : ∀ {l : List α}, l.Pairwise R → (keepF f l x).Pairwise R
  | [], _ => by rw [keepF_nil]; exact List.pairwise_singleton _ _
  | a :: t, h => by
    have h' := List.pairwise_cons.1 h
    rw [keepF_cons]
    by_cases ha : f a < 0
    · rw [if_pos ha]
      refine List.pairwise_cons.2 ⟨fun b hb => ?_, keepF_pw htr hlt hgt h0 h'.2⟩
      rcases keepF_mem f x t b hb with rfl | hb
      · exact hlt a ha
      · exact h'.1 b hb
    · rw [if_neg ha]
      by_cases hz : f a = 0
      · rw [if_pos hz]
        exact List.pairwise_cons.2 ⟨fun b hb => h0 a b hz (h'.1 b hb), h'.2⟩
      · rw [if_neg hz]
        have hx := hgt a (by omega)
        refine List.pairwise_cons.2 ⟨fun b hb => ?_, h⟩
        rcases List.mem_cons.1 hb with rfl | hb
        · exact hx
        · exact htr _ _ _ hx (h'.1 b hb)
theorem parts_iff {l : List Int} : partsB l = true ↔ l.Pairwise (fun a b => a < b) ∧ ∀ x ∈ l, partB x = true := by
  rw [← riseB_parts]
  unfold riseB RiseTo
  simp only [decide_eq_true_eq]
  constructor
  · rintro ⟨h1, h2⟩
    refine ⟨adj_pw (R := fun a b => a < b) (fun a b c h k => Int.lt_trans h k) h1, fun x hx => ?_⟩
    obtain ⟨j, hj⟩ := List.getElem?_of_mem hx
    have := h2 j x (List.getElem?_eq_some_iff.1 hj).1 hj
    unfold partB
    simp only [Bool.and_eq_true, decide_eq_true_eq]
    exact this
  · rintro ⟨h1, h2⟩
    refine ⟨pw_adj h1, fun j x hj hx => ?_⟩
    have := h2 x (List.mem_of_getElem? hx)
    unfold partB at this
    simp only [Bool.and_eq_true, decide_eq_true_eq] at this
    exact this
theorem cmpI_pos (a b : Int) : 0 < cmpI a b ↔ b < a := by unfold cmpI; split <;> (try split) <;> omega
theorem parts_keep {l : List Int} {q : Int} (h : partsB l = true) (hq : partB q = true) : partsB (keepF (fun y => cmpI y q) l q) = true := by
  rw [parts_iff] at h ⊢
  refine ⟨keepF_pw (R := fun a b : Int => a < b) (fun a b c h k => Int.lt_trans h k) (fun y hy => (cmpI_neg y q).1 hy) (fun y hy => (cmpI_pos y q).1 hy) (fun y b hy hb => by have := (cmpI_zero y q).1 hy; omega) h.1, fun x hx => ?_⟩
  rcases keepF_mem _ _ _ _ hx with rfl | hx
  · exact hq
  · exact h.2 x hx
theorem ahead_iff (a b : Pd) : aheadP a b ↔ a.1 < b.1 ∨ (a.1 = b.1 ∧ a.2.1 < b.2.1) := by
  unfold aheadP aheadB
  simp only [Bool.or_eq_true, Bool.and_eq_true, decide_eq_true_eq]
theorem ahead_tr (a b c : Pd) (h : aheadP a b) (k : aheadP b c) : aheadP a c := by
  rw [ahead_iff] at *
  omega
theorem plI_zero (a b : Pd) : plI a b = 0 ↔ a.1 = b.1 ∧ a.2.1 = b.2.1 := by
  have h2 := cmpI_zero a.1 b.1
  have h4 := cmpI_zero a.2.1 b.2.1
  simp only [plI, orI]
  by_cases h : cmpI a.1 b.1 = 0
  · rw [if_pos h]
    by_cases h' : cmpI a.2.1 b.2.1 = 0
    · rw [if_pos h']; exact ⟨fun _ => ⟨h2.1 h, h4.1 h'⟩, fun _ => rfl⟩
    · rw [if_neg h']; exact ⟨fun x => absurd x h', fun x => absurd (h4.2 x.2) h'⟩
  · rw [if_neg h]; exact ⟨fun x => absurd x h, fun x => absurd (h2.2 x.1) h⟩
theorem plI_pos (a b : Pd) (h : 0 < plI a b) : aheadP b a := by
  have h1 := plI_neg a b
  have h2 := plI_zero a b
  have h3 : ¬ aheadP a b := fun x => by have := h1.2 x; omega
  have h4 : ¬ (a.1 = b.1 ∧ a.2.1 = b.2.1) := fun x => by have := h2.2 x; omega
  rw [ahead_iff] at *
  omega
theorem pends_keep {l : List Pd} {p : Pd} (h1 : l.all pendB = true) (h2 : adjB aheadP l = true) (hp : pendB p = true) : (keepF (fun y => plI y p) l p).all pendB = true ∧ adjB aheadP (keepF (fun y => plI y p) l p) = true := by
  rw [adjB_iff] at h2 ⊢
  refine ⟨?_, pw_adj (keepF_pw ahead_tr (fun y hy => (plI_neg y p).1 hy) (fun y hy => plI_pos y p hy) (fun y b hy hb => ?_) (adj_pw ahead_tr h2))⟩
  · rw [List.all_eq_true] at h1 ⊢
    intro x hx
    rcases keepF_mem _ _ _ _ hx with rfl | hx
    · exact hp
    · exact h1 x hx
  · have := (plI_zero y p).1 hy
    rw [ahead_iff] at hb ⊢
    omega
theorem parts_nilG : partsB [] = true := parts_iff.2 ⟨List.Pairwise.nil, fun _ h => by cases h⟩
theorem adjB_nil {α : Type} {R : α → α → Prop} : adjB R ([] : List α) = true := adjB_true (Adj.one (by simp))

theorem range_iff (c : Co) : rangeB c = true ↔ c.qs.all pendB = true ∧ 1 ≤ c.pid ∧ c.pid ≤ 8 ∧ 0 ≤ c.ep ∧ c.ep ≤ 100 ∧ 1 ≤ c.tm ∧ c.tm ≤ 20 ∧ 0 ≤ c.ag ∧ c.ag ≤ 1048576 ∧ partsB c.ps = true ∧ adjB aheadP c.qs = true := by
  unfold rangeB
  simp only [Bool.and_eq_true, decide_eq_true_eq]
theorem may_new (st pid ep tm : Int) (hs : st = 1 ∨ st = 5 ∨ st = 6) (h1 : 1 ≤ pid ∧ pid ≤ 8) (h2 : 0 ≤ ep ∧ ep ≤ 100) (h3 : 1 ≤ tm ∧ tm ≤ 20) : mayB ⟨st, pid, ep, tm, 0, [], [], 0⟩ = true := by
  have hr : rangeB ⟨st, pid, ep, tm, 0, [], [], 0⟩ = true := (range_iff _).2 ⟨rfl, h1.1, h1.2, h2.1, h2.2, h3.1, h3.2, Int.le_refl _, by show (0 : Int) ≤ 1048576; decide, parts_nilG, adjB_nil⟩
  unfold mayB
  rw [if_neg (by show ¬ st = 0; omega), if_neg (by show ¬ st = 2; omega), if_neg (by show ¬ st = 3; omega), if_neg (by show ¬ st = 4; omega), if_pos hs]
  unfold idleB
  rw [hr]
  rfl
theorem may_2 {d : Co} (hs : d.st = 2) (hn : ¬ (d.ps.length = 0 ∧ d.qs.length = 0)) (ht : d.th = 0) (hr : rangeB d = true) : mayB d = true := by
  unfold mayB
  rw [if_neg (by omega), if_pos hs]
  unfold tailB
  rw [hr, ht]
  simp only [Bool.and_true, Bool.not_eq_true', beq_self_eq_true, Bool.and_eq_true, Bool.and_eq_false_iff, decide_eq_false_iff_not, Bool.true_and]
  refine ⟨by omega, by simp⟩
theorem may_3 {d : Co} (hs : d.st = 3) (ht : d.th = 0) (hr : rangeB d = true) : mayB d = true := by
  unfold mayB
  rw [if_neg (by omega), if_neg (by omega), if_pos hs]
  unfold tailB
  rw [hr, ht]
  simp
theorem may_4 {d : Co} (hs : d.st = 4) (h1 : 0 ≤ d.th) (h2 : d.th ≤ 20) (h3 : 0 < d.th → d.ep < 100) (hr : rangeB d = true) : mayB d = true := by
  unfold mayB
  rw [if_neg (by omega), if_neg (by omega), if_neg (by omega), if_pos hs]
  unfold tailB
  rw [hr]
  simp only [Bool.and_true, Bool.not_eq_true', Bool.or_eq_false_iff, Bool.and_eq_false_iff, decide_eq_false_iff_not]
  refine ⟨by omega, by omega, ?_⟩
  by_cases h : 0 < d.th
  · have := h3 h; omega
  · omega
theorem may_prep {c : Co} (h : mayB c = true) (hs : c.st = 3 ∨ c.st = 4) : 0 ≤ c.th ∧ c.th ≤ 20 ∧ (0 < c.th → c.ep < 100) ∧ rangeB c = true ∧ (c.st = 3 → c.th = 0) := by
  unfold mayB at h
  rw [if_neg (by omega), if_neg (by omega)] at h
  have key : ∀ {c : Co}, tailB c = true → 0 ≤ c.th ∧ c.th ≤ 20 ∧ (0 < c.th → c.ep < 100) ∧ rangeB c = true := fun {c} h => by
    unfold tailB at h
    simp only [Bool.and_eq_true, Bool.not_eq_true', Bool.or_eq_false_iff, Bool.and_eq_false_iff, decide_eq_false_iff_not] at h
    exact ⟨by omega, by omega, fun h0 => by omega, h.2⟩
  by_cases h3 : c.st = 3
  · rw [if_pos h3] at h
    rw [Bool.and_eq_true, beq_iff_eq] at h
    have := key h.2
    exact ⟨this.1, this.2.1, this.2.2.1, this.2.2.2, fun _ => h.1⟩
  · rw [if_neg h3, if_pos (by omega)] at h
    have := key h
    exact ⟨this.1, this.2.1, this.2.2.1, this.2.2.2, fun x => absurd x h3⟩
theorem chk_begins {c : Co} {mv : Int} {fit : Bool} (h : chkE c mv fit = 0) : beginsB c.st mv = true := by
  unfold chkE at h
  split at h
  · cases h
  · split at h
    · cases h
    · rename_i hb; simpa using hb
theorem begins_0 {st : Int} (h : beginsB st 0 = true) : st = 0 ∨ st = 1 ∨ st = 5 ∨ st = 6 := by
  unfold beginsB at h
  by_cases h0 : st = 0
  · exact .inl h0
  by_cases h2 : st = 2
  · rw [if_neg h0, if_pos h2] at h; cases h
  by_cases h5 : st = 1 ∨ st = 5 ∨ st = 6
  · exact .inr h5
  by_cases h3 : st = 3 ∨ st = 4
  · rw [if_neg h0, if_neg h2, if_neg h5, if_pos h3] at h; cases h
  · rw [if_neg h0, if_neg h2, if_neg h5, if_neg h3] at h; cases h
theorem begins_12 {st mv : Int} (hm : mv = 1 ∨ mv = 2) (h : beginsB st mv = true) : st = 2 ∨ st = 1 ∨ st = 5 ∨ st = 6 := by
  unfold beginsB at h
  by_cases h0 : st = 0
  · rw [if_pos h0] at h; rcases hm with rfl | rfl <;> cases h
  by_cases h2 : st = 2
  · exact .inl h2
  by_cases h5 : st = 1 ∨ st = 5 ∨ st = 6
  · exact .inr h5
  by_cases h3 : st = 3 ∨ st = 4
  · rw [if_neg h0, if_neg h2, if_neg h5, if_pos h3] at h; rcases hm with rfl | rfl <;> cases h
  · rw [if_neg h0, if_neg h2, if_neg h5, if_neg h3] at h; cases h
theorem begins_3 {st : Int} (h : beginsB st 3 = true) : st = 3 ∨ st = 4 := by
  unfold beginsB at h
  by_cases h0 : st = 0
  · rw [if_pos h0] at h; cases h
  by_cases h2 : st = 2
  · rw [if_neg h0, if_pos h2] at h; cases h
  by_cases h5 : st = 1 ∨ st = 5 ∨ st = 6
  · rw [if_neg h0, if_neg h2, if_pos h5] at h; cases h
  by_cases h3 : st = 3 ∨ st = 4
  · exact h3
  · rw [if_neg h0, if_neg h2, if_neg h5, if_neg h3] at h; cases h
/-- What can be written to. -/
theorem may_open {c : Co} (h : mayB c = true) (hs : c.st = 2 ∨ c.st = 1 ∨ c.st = 5 ∨ c.st = 6) : c.th = 0 ∧ rangeB c = true := by
  rcases hs with hs | hs
  · exact (may_going h hs).2
  · have := may_idle h hs
    exact ⟨this.1, this.2.2.2.2⟩
def bumpB (c : Co) (x : Mv) : Bool := (x.k == 0 && !(c.st == 0)) || (x.k == 4 && decide (0 < c.th))
/-- What a move that is done leads to. -/
structure MvF (c : Co) (x : Mv) (d : Co) : Prop where
  may : mayB d = true
  pid : ¬ c.st = 0 → d.pid = c.pid
  ep : d.ep = if bumpB c x = true then c.ep + 1 else c.ep
  fin : x.k = 4 → (c.st = 3 ∨ c.st = 4) ∧ d.ps = [] ∧ d.qs = [] ∧ (bumpB c x = false → d.st = if c.st = 3 then 5 else 6) ∧ ¬ d.st = 2
theorem add_ok {c : Co} {q : Int} (h : addE c q = 0) : mayB (addC c q) = true ∧ addC c q = { c with st := 2, ps := keepF (fun y => cmpI y q) c.ps q } := by
  have hc : addC c q = { c with st := 2, ps := keepF (fun y => cmpI y q) c.ps q } := by unfold addC; rw [if_pos h]
  obtain ⟨hm, hq⟩ := chk_may h
  obtain ⟨ht, hr⟩ := may_open hm (begins_12 (.inl rfl) (chk_begins h))
  have hr' := (range_iff c).1 hr
  refine ⟨?_, hc⟩
  rw [hc]
  refine may_2 rfl (fun x => keepF_ne _ _ _ x.1) ht ((range_iff _).2 ⟨hr'.1, hr'.2.1, hr'.2.2.1, hr'.2.2.2.1, hr'.2.2.2.2.1, hr'.2.2.2.2.2.1, hr'.2.2.2.2.2.2.1, hr'.2.2.2.2.2.2.2.1, hr'.2.2.2.2.2.2.2.2.1, parts_keep hr'.2.2.2.2.2.2.2.2.2.1 hq, hr'.2.2.2.2.2.2.2.2.2.2⟩)
theorem set_ok {c : Co} {p : Pd} (h : setE c p = 0) : mayB (setC c p) = true ∧ setC c p = { c with st := 2, qs := keepF (fun y => plI y p) c.qs p } := by
  have hc : setC c p = { c with st := 2, qs := keepF (fun y => plI y p) c.qs p } := by unfold setC; rw [if_pos h]
  obtain ⟨hm, hq⟩ := chk_may h
  obtain ⟨ht, hr⟩ := may_open hm (begins_12 (.inl rfl) (chk_begins h))
  have hr' := (range_iff c).1 hr
  have hk := pends_keep hr'.1 hr'.2.2.2.2.2.2.2.2.2.2 hq
  refine ⟨?_, hc⟩
  rw [hc]
  exact may_2 rfl (fun x => keepF_ne _ _ _ x.2) ht ((range_iff _).2 ⟨hk.1, hr'.2.1, hr'.2.2.1, hr'.2.2.2.1, hr'.2.2.2.2.1, hr'.2.2.2.2.2.1, hr'.2.2.2.2.2.2.1, hr'.2.2.2.2.2.2.2.1, hr'.2.2.2.2.2.2.2.2.1, hr'.2.2.2.2.2.2.2.2.2.1, hk.2⟩)
theorem tick_may {c : Co} (h : mayB c = true) : mayB (tickC c) = true := by
  unfold tickC
  by_cases h2 : mayB c = true ∧ c.st = 2
  · rw [if_pos h2]
    obtain ⟨hn, ht, hr⟩ := may_going h h2.2
    have hr' := (range_iff c).1 hr
    refine may_2 h2.2 hn ht ((range_iff _).2 ⟨hr'.1, hr'.2.1, hr'.2.2.1, hr'.2.2.2.1, hr'.2.2.2.2.1, hr'.2.2.2.2.2.1, hr'.2.2.2.2.2.2.1, ?_, ?_, hr'.2.2.2.2.2.2.2.2.2.1, hr'.2.2.2.2.2.2.2.2.2.2⟩)
    · show 0 ≤ if c.ag < 1048576 then c.ag + 1 else c.ag
      split <;> omega
    · show (if c.ag < 1048576 then c.ag + 1 else c.ag) ≤ 1048576
      split <;> omega
  · rw [if_neg h2]; exact h
theorem mv_fact {c : Co} {x : Mv} (hc : mayB c = true) (h : mvE c x = 0) : MvF c x (mvC c x) := by
  unfold mvE at h
  unfold mvC
  by_cases k0 : x.k = 0
  · rw [if_pos k0] at h ⊢
    have hb : bumpB c x = !(c.st == 0) := by unfold bumpB; rw [k0]; simp
    have hE := h
    unfold initE at h
    by_cases hr : ¬ (1 ≤ x.a ∧ x.a ≤ 8 ∧ 1 ≤ x.b ∧ x.b ≤ 20)
    · rw [if_pos hr] at h; cases h
    rw [if_neg hr] at h
    by_cases hk : ¬ chkE c 0 true = 0
    · rw [if_pos hk] at h; exact absurd h hk
    rw [if_neg hk] at h
    by_cases he : 100 ≤ c.ep
    · rw [if_pos he] at h; cases h
    have hst := begins_0 (chk_begins (Decidable.not_not.1 hk))
    unfold initC
    rw [if_pos hE]
    by_cases h0 : c.st = 0
    · rw [if_pos h0]
      have hz : c.ep = 0 := by rw [may_none hc h0]; rfl
      exact ⟨may_new 1 x.a 0 x.b (.inl rfl) (by omega) (by omega) (by omega), fun hn => absurd h0 hn, by rw [hb, h0, hz]; rfl, fun hk4 => by omega⟩
    · rw [if_neg h0]
      have hi := (may_idle hc (by omega)).2.2.2.2
      have hr' := (range_iff c).1 hi
      exact ⟨may_new 1 c.pid (c.ep + 1) x.b (.inl rfl) (by omega) (by omega) (by omega), fun _ => rfl, by rw [hb, if_pos (by simpa using h0)], fun hk4 => by omega⟩
  rw [if_neg k0] at h ⊢
  by_cases k1 : x.k = 1
  · rw [if_pos k1] at h ⊢
    have hb : bumpB c x = false := by unfold bumpB; rw [k1]; rfl
    obtain ⟨hm, he⟩ := add_ok h
    exact ⟨hm, fun _ => by rw [he], by rw [hb, he]; rfl, fun hk4 => by omega⟩
  rw [if_neg k1] at h ⊢
  by_cases k2 : x.k = 2
  · rw [if_pos k2] at h ⊢
    have hb : bumpB c x = false := by unfold bumpB; rw [k2]; rfl
    obtain ⟨hm, he⟩ := set_ok h
    exact ⟨hm, fun _ => by rw [he], by rw [hb, he]; rfl, fun hk4 => by omega⟩
  rw [if_neg k2] at h ⊢
  by_cases k3 : x.k = 3
  · rw [if_pos k3] at h ⊢
    have hb : bumpB c x = false := by unfold bumpB; rw [k3]; rfl
    have hE := h
    unfold prepE at h
    by_cases hr : ¬ (0 ≤ x.a ∧ x.a ≤ 20 ∧ (x.yes = false ∨ x.a = 0))
    · rw [if_pos hr] at h; cases h
    rw [if_neg hr] at h
    by_cases hk : ¬ chkE c 2 true = 0
    · rw [if_pos hk] at h; exact absurd h hk
    rw [if_neg hk] at h
    by_cases he : 0 < x.a ∧ 100 ≤ c.ep
    · rw [if_pos he] at h; cases h
    have hst := begins_12 (.inr rfl) (chk_begins (Decidable.not_not.1 hk))
    obtain ⟨ht, hrg⟩ := may_open hc hst
    unfold prepC
    rw [if_pos hE]
    refine ⟨?_, fun _ => rfl, by rw [hb]; rfl, fun hk4 => by omega⟩
    cases hy : x.yes
    · exact may_4 rfl (by show 0 ≤ x.a; omega) (by show x.a ≤ 20; omega) (fun h0 => by have : 0 < x.a := h0; show c.ep < 100; omega) hrg
    · exact may_3 rfl (by show x.a = 0; rw [hy] at hr; simp at hr; omega) hrg
  rw [if_neg k3] at h ⊢
  by_cases k4 : x.k = 4
  · rw [if_pos k4] at h ⊢
    have hst := begins_3 (chk_begins h)
    obtain ⟨h1, h2, h3, hrg, h5⟩ := may_prep hc hst
    have hr' := (range_iff c).1 hrg
    have hb : bumpB c x = decide (0 < c.th) := by unfold bumpB; rw [k4]; simp
    unfold compC
    rw [if_neg (by simpa using h)]
    by_cases ht : 0 < c.th
    · rw [if_pos ht]
      have := h3 ht
      exact ⟨may_new 1 c.pid (c.ep + 1) c.th (.inl rfl) (by omega) (by omega) (by omega), fun _ => rfl, by rw [hb, if_pos (by simpa using ht)], fun _ => ⟨hst, rfl, rfl, fun hf => by rw [hb] at hf; simp at hf; omega, by show ¬ (1 : Int) = 2; decide⟩⟩
    · rw [if_neg ht]
      have hbf : bumpB c x = false := by rw [hb]; simpa using ht
      by_cases h4 : c.st = 4
      · rw [if_pos h4]
        exact ⟨may_new 6 c.pid c.ep c.tm (.inr (.inr rfl)) (by omega) (by omega) (by omega), fun _ => rfl, by rw [hbf]; rfl, fun _ => ⟨hst, rfl, rfl, fun _ => by rw [if_neg (by omega)], by show ¬ (6 : Int) = 2; decide⟩⟩
      · rw [if_neg h4]
        exact ⟨may_new 5 c.pid c.ep c.tm (.inr (.inl rfl)) (by omega) (by omega) (by omega), fun _ => rfl, by rw [hbf]; rfl, fun _ => ⟨hst, rfl, rfl, fun _ => by rw [if_pos (by omega)], by show ¬ (5 : Int) = 2; decide⟩⟩
  rw [if_neg k4] at h ⊢
  have hb : bumpB c x = false := by
    unfold bumpB
    have e0 : (x.k == 0) = false := by simpa using k0
    have e4 : (x.k == 4) = false := by simpa using k4
    rw [e0, e4]; rfl
  by_cases k5 : x.k = 5
  · rw [if_pos k5]
    exact ⟨tick_may hc, fun _ => by unfold tickC; split <;> rfl, by rw [hb]; unfold tickC; split <;> rfl, fun hk4 => by omega⟩
  rw [if_neg k5] at h ⊢
  obtain ⟨h1, _, _, h4, h5, _⟩ := place_may hc h
  exact ⟨h1, fun _ => h4, by rw [hb, h5]; rfl, fun hk4 => by omega⟩
end Go.Proofs.YtbpkckahonmpkaaDoor
namespace Go.Proofs.YtbpkckahonmpkaaDoor
open Go.RowKit
/-- What becomes of a transactional id. -/
noncomputable def moveE (c : Co) (m : Mt) (made : Int) : Int :=
  if m.kd = 1 then initE c (min (made + 1) 8) m.tm else if m.kd = 2 then setE c m.p else if m.kd = 3 then prepE c m.yes m.th else if m.kd = 4 then chkE c 3 true else 0
noncomputable def moveC (c : Co) (m : Mt) (made : Int) : Co :=
  if m.kd = 1 then initC c (min (made + 1) 8) m.tm else if m.kd = 2 then setC c m.p else if m.kd = 3 then prepC c m.yes m.th else if m.kd = 4 then compC c else m.c
def Sta.pend (s : Sta) (p : Pd) : Sta := s.setGr (p.1.toNat * 3 + p.2.1.toNat) p.2.2
def Sta.pends (s : Sta) (l : List Pd) : Sta := l.foldl Sta.pend s
/-- The state that an entry leads to, if it may be. -/
noncomputable def toS (s : Sta) (m : Mt) : Sta :=
  if m.kd = 0 then { s with made := s.made + 1 }
  else if m.kd = 5 then s.pend m.p
  else if m.kd = 7 then { s with made := m.nx }
  else if m.kd = 1 ∧ (s.tid m.tid.toNat).st = 0 then { s.put m.tid.toNat (initC (s.tid m.tid.toNat) (s.made + 1) m.tm) with made := s.made + 1 }
  else (s.pends (if m.kd = 4 ∧ (s.tid m.tid.toNat).st = 3 then (s.tid m.tid.toNat).qs else [])).put m.tid.toNat (moveC (s.tid m.tid.toNat) m s.made)
/-- What is wrong, but for the state that it leads to. -/
noncomputable def toE (s : Sta) (m : Mt) : Int :=
  if m.kd = 0 then (if s.made = 8 then 102 else 0)
  else if m.kd = 5 ∨ m.kd = 7 then 0
  else if m.kd = 1 ∧ (s.tid m.tid.toNat).st = 0 then (if s.made = 8 then 102 else 0)
  else moveE (s.tid m.tid.toNat) m s.made
noncomputable def nextE (s : Sta) (m : Mt) : Int :=
  if mayS s = false ∨ mayM m = false then 2
  else if ¬ toE s m = 0 then toE s m
  else if mayS (toS s m) = true then 0 else 2
noncomputable def nextS (s : Sta) (m : Mt) : Sta := if nextE s m = 0 then toS s m else sta00
end Go.Proofs.YtbpkckahonmpkaaDoor
namespace Go.Proofs.YtbpkckahonmpkaaDoor
open Go.RowKit
theorem infoMt : (Tryd.prog.info? 35).map (·.size) = some 17 := by kernel_rfl
theorem infoPdM : (Tryd.prog.info? 33).map (·.size) = some 3 := by kernel_rfl
def Mt0 (k : Int) : Mt := ⟨k, 0, 0, Pd0, false, 0, Co0, 0⟩
/-- Two entries' blocks. -/
structure MtE (lo x y : Nat) (w : World) (X Y : Array Value) (W : World) : Prop where
  k1 : Blk W x 35 X
  k2 : Blk W y 35 Y
  bel : Below lo w W
  ne : x ≠ y
  hy : lo ≤ y
theorem MtE.below {lo x y : Nat} {w W W' : World} {X Y : Array Value} (h : MtE lo x y w X Y W) (hl : lo ≤ W.heap.size) (hb : Below W.heap.size W W') : MtE lo x y w X Y W' :=
  ⟨h.k1.below hb h.k1.lt, h.k2.below hb h.k2.lt, h.bel.trans (hb.mono hl), h.ne, h.hy⟩
theorem MtE.drew {lo x y : Nat} {w W : World} {X Y : Array Value} (h : MtE lo x y w X Y W) : MtE lo x y w X Y W.drew := ⟨h.k1.drew, h.k2.drew, h.bel.drew, h.ne, h.hy⟩
theorem MtE.cellSet {lo x y : Nat} {w W : World} {X Y Y' : Array Value} (h : MtE lo x y w X Y W) (j : Nat) (v : Value) (ho : Y.setIfInBounds j v = Y') : MtE lo x y w X Y' (W.setCell ⟨y, j, none⟩ v) := by
  refine ⟨h.k1.far (p := ⟨y, j, none⟩) h.ne v, ?_, h.bel.setCell (p := ⟨y, j, none⟩) h.hy v, h.ne, h.hy⟩
  rw [← ho]; exact h.k2.set_ j v
theorem store_boolM {W : World} {a : Addr} {u : Value} (k : Bool) (h : W.cell? a = some u) (hf : W.frozen? a = false) : (storeVar 4 a (.bool k)).run Tryd.prog W = .ok () (W.setCell a (.bool k)) := by
  simp [go_sem, h, hf]
theorem cell_is {W : World} {y : Nat} {t : TypeId} {Y : Array Value} (h : Blk W y t Y) {j : Nat} (hj : j < Y.size) : ∃ u, W.cell? ⟨y, j, none⟩ = some u := ⟨Y[j], by rw [h.cell]; simp [hj]⟩
theorem MtE.int {lo x y : Nat} {w W : World} {X Y : Array Value} (h : MtE lo x y w X Y W) (j : Nat) (n : Int) (Y' : Array Value) (hj : j < Y.size) (ho : Y.setIfInBounds j (.int .i64 n) = Y') :
    ∃ W', (storeVar 3 ⟨y, j, none⟩ (.int .i64 n)).run Tryd.prog W = .ok () W' ∧ MtE lo x y w X Y' W' := by
  obtain ⟨u, hu⟩ := cell_is h.k2 hj
  exact ⟨_, store_intS n hu (h.k2.frozen j), h.cellSet j _ ho⟩
theorem MtE.bool {lo x y : Nat} {w W : World} {X Y : Array Value} (h : MtE lo x y w X Y W) (j : Nat) (n : Bool) (Y' : Array Value) (hj : j < Y.size) (ho : Y.setIfInBounds j (.bool n) = Y') :
    ∃ W', (storeVar 4 ⟨y, j, none⟩ (.bool n)).run Tryd.prog W = .ok () W' ∧ MtE lo x y w X Y' W' := by
  obtain ⟨u, hu⟩ := cell_is h.k2 hj
  exact ⟨_, store_boolM n hu (h.k2.frozen j), h.cellSet j _ ho⟩
theorem MtE.many {lo x y : Nat} {w W : World} {X Y : Array Value} (h : MtE lo x y w X Y W) (ty : TypeId) (o : Nat) (vs : List Value) (Y' : Array Value) (hi : (Tryd.prog.info? ty).map (·.size) = some vs.length) (hj : o + vs.length ≤ Y.size) (h1 : vs.toArray.all (·.oneCell') = true) (ho : bkSet Y o vs = Y') :
    ∃ W', (storeVar ty ⟨y, o, none⟩ (.agg vs.toArray)).run Tryd.prog W = .ok () W' ∧ MtE lo x y w X Y' W' := by
  refine ⟨_, run_storeVar_mid W y o ty vs.toArray (fun j hj' => ?_) (by rw [hi]; rfl) h1, ?_⟩
  · exact blk_is h.k2 (by simp at hj'; omega)
  · refine ⟨?_, ?_, bk_setCells_below h.hy _ _ _ h.bel, h.ne, h.hy⟩
    · exact (bk_setCells_heap y _ _ _ x h.ne).trans h.k1
    · rw [← ho]; exact bk_setCells vs o _ _ h.k2
theorem mt_pendS (m : Mt) (A D : Option Addr) (c e : Nat) (p : Pd) : bkSet (mtX m A D c e) 3 [.int .i64 p.1, .int .i64 p.2.1, .int .i64 p.2.2] = mtX { m with p := p } A D c e := by
  have h := bkSet_mid [.int .i64 p.1, .int .i64 p.2.1, .int .i64 p.2.2] [.int .i64 m.p.1, .int .i64 m.p.2.1, .int .i64 m.p.2.2] [.int .i8 m.kd, .int .i64 m.tid, .int .i64 m.tm] (.bool m.yes :: .int .i64 m.th :: (coL m.c A D c e ++ [.int .i64 m.nx])) rfl
  unfold mtX mtL
  simp only [List.cons_append, List.nil_append] at h ⊢
  exact h
theorem mt_coS (m : Mt) (A D : Option Addr) (c e : Nat) (d : Co) (A5 D5 : Option Addr) (c5 e5 : Nat) : bkSet (mtX m A D c e) 8 (coL d A5 D5 c5 e5) = mtX { m with c := d } A5 D5 c5 e5 := by
  have h := bkSet_mid (coL d A5 D5 c5 e5) (coL m.c A D c e) [.int .i8 m.kd, .int .i64 m.tid, .int .i64 m.tm, .int .i64 m.p.1, .int .i64 m.p.2.1, .int .i64 m.p.2.2, .bool m.yes, .int .i64 m.th] [.int .i64 m.nx] rfl
  unfold mtX mtL
  exact h
theorem MtE.pend {lo x y : Nat} {w W : World} {X : Array Value} {o : Mt} {A D : Option Addr} {c e : Nat} (h : MtE lo x y w X (mtX o A D c e) W) (p : Pd) :
    ∃ W', (storeVar 33 ⟨y, 3, none⟩ (.agg #[.int .i64 p.1, .int .i64 p.2.1, .int .i64 p.2.2])).run Tryd.prog W = .ok () W' ∧ MtE lo x y w X (mtX { o with p := p } A D c e) W' :=
  h.many 33 3 [.int .i64 p.1, .int .i64 p.2.1, .int .i64 p.2.2] _ infoPdM (by rw [mtX_size]; simp) (by simp [Value.oneCell']) (mt_pendS o A D c e p)
theorem MtE.co {lo x y : Nat} {w W : World} {X : Array Value} {o : Mt} {A D : Option Addr} {c e : Nat} (h : MtE lo x y w X (mtX o A D c e) W) (d : Co) (A5 D5 : Option Addr) (c5 e5 : Nat) :
    ∃ W', (storeVar 26 ⟨y, 8, none⟩ (.agg #[.int .i8 d.st, .int .i64 d.pid, .int .i64 d.ep, .int .i64 d.tm, .int .i64 d.th, .slice A5 d.ps.length c5, .slice D5 d.qs.length e5, .int .i64 d.ag])).run Tryd.prog W = .ok () W' ∧ MtE lo x y w X (mtX { o with c := d } A5 D5 c5 e5) W' :=
  h.many 26 8 (coL d A5 D5 c5 e5) _ infoCoS (by rw [mtX_size]; simp [coL]) (by simp [coL, Value.oneCell']) (mt_coS o A D c e d A5 D5 c5 e5)
theorem sameM_tid {a b : Mt} (h : sameM a b = true) : a.tid = b.tid := by
  unfold sameM at h
  simp only [Bool.and_eq_true, beq_iff_eq] at h
  exact h.2.1
theorem co0_R (w : World) (B : Nat) : CoR w B Co0 none none := ⟨Reads.none_, Reads.none_, by simp [Co0], by simp [Co0]⟩
end Go.Proofs.YtbpkckahonmpkaaDoor
namespace Go.Proofs.YtbpkckahonmpkaaDoor
open Go.RowKit
/-- A state's lists, none of them in block g, nor below lo. -/
def StO (w : World) (g lo : Nat) (s : Sta) (a : Sad) : Prop := ∀ k, k < 3 → CoR w w.heap.size (s.tid k) (a.A k) (a.D k) ∧ (OffB g (s.tid k).ps.length (a.A k) ∧ OffB g (s.tid k).qs.length (a.D k)) ∧ NewAt lo (s.tid k).ps.length (a.A k) ∧ NewAt lo (s.tid k).qs.length (a.D k)
theorem StO.r {w : World} {g lo : Nat} {s : Sta} {a : Sad} (h : StO w g lo s a) : StR w w.heap.size s a := fun k hk => (h k hk).1
theorem StO.of {w w' : World} {g lo : Nat} {s : Sta} {a : Sad} (h : StR w g s a) (hN : ∀ k, k < 3 → NewAt lo (s.tid k).ps.length (a.A k) ∧ NewAt lo (s.tid k).qs.length (a.D k)) (hb : Below g w w') (hg : g ≤ w'.heap.size) : StO w' g lo s a :=
  fun k hk => ⟨((h k hk).below hb).more hg, ⟨(h k hk).1.offB (Nat.le_refl _), (h k hk).2.1.offB (Nat.le_refl _)⟩, hN k hk⟩
theorem CoR.keepB {w w' : World} {c : Co} {A D : Option Addr} {b : Nat} (h : CoR w w.heap.size c A D) (f : OffB b c.ps.length A) (g : OffB b c.qs.length D) (k : ∀ y, y < w.heap.size → y ≠ b → w'.heap[y]? = w.heap[y]?) (hs : w.heap.size ≤ w'.heap.size) : CoR w' w'.heap.size c A D := by
  refine CoR.more ?_ hs
  refine ⟨reads_keepS h.1 (fun hn ad e => k _ ?_ (f hn ad e)), reads_keepS h.2.1 (fun hn ad e => k _ ?_ (g hn ad e)), h.2.2⟩
  · obtain ⟨ad', e', hb', _⟩ := h.1.2 hn
    rw [e] at e'; injection e' with e'; subst e'; exact hb'
  · obtain ⟨ad', e', hb', _⟩ := h.2.1.2 hn
    rw [e] at e'; injection e' with e'; subst e'; exact hb'
/-- All but block g is kept. -/
structure But (g : Nat) (w w' : World) : Prop where
  size : w.heap.size ≤ w'.heap.size
  keep : ∀ y, y < w.heap.size → y ≠ g → w'.heap[y]? = w.heap[y]?
theorem But.refl (g : Nat) (w : World) : But g w w := ⟨Nat.le_refl _, fun _ _ _ => rfl⟩
theorem But.trans {g : Nat} {a b c : World} (h : But g a b) (k : But g b c) : But g a c := ⟨Nat.le_trans h.size k.size, fun y hy hg => (k.keep y (Nat.lt_of_lt_of_le hy h.size) hg).trans (h.keep y hy hg)⟩
theorem But.below {g : Nat} {w w' : World} (h : Below w.heap.size w w') : But g w w' := ⟨h.size, fun y hy _ => h.block y hy⟩
theorem But.one {g : Nat} {w w' : World} (k : ∀ y, y ≠ g → w'.heap[y]? = w.heap[y]?) (hs : w'.heap.size = w.heap.size) : But g w w' := ⟨Nat.le_of_eq hs.symm, fun y _ hg => k y hg⟩
theorem But.drew (g : Nat) (w : World) : But g w w.drew := ⟨Nat.le_refl _, fun _ _ _ => rfl⟩
theorem But.alloc (g : Nat) (w : World) (ob : Obj) : But g w (w.alloc ob) := But.below ((Below.refl _ _).alloc (Nat.le_refl _) ob)
theorem StO.but {w w' : World} {g lo : Nat} {s : Sta} {a : Sad} (h : StO w g lo s a) (k : But g w w') : StO w' g lo s a := fun j hj => ⟨(h j hj).1.keepB (h j hj).2.1.1 (h j hj).2.1.2 k.keep k.size, (h j hj).2⟩
theorem Reads.but {w w' : World} {g B size n : Nat} {A : Option Addr} {xs : List Value} (h : Reads w B size A n xs) (hB : B ≤ w.heap.size) (f : OffB g n A) (k : But g w w') : Reads w' B size A n xs :=
  reads_keepS h (fun hn ad e => k.keep _ (by
    obtain ⟨ad', e', hb', _⟩ := h.2 hn
    rw [e] at e'; injection e' with e'; subst e'; omega) (f hn ad e))
theorem Blk.but {w w' : World} {g b : Nat} {t : TypeId} {cs : Array Value} (h : Blk w b t cs) (hb : b ≠ g) (k : But g w w') : Blk w' b t cs := (k.keep b h.lt hb).trans h
theorem StO.put {w : World} {g lo t : Nat} {s : Sta} {a : Sad} (h : StO w g lo s a) {d : Co} {A5 D5 : Option Addr} {c5 e5 n : Nat} (r : CoR w w.heap.size d A5 D5) (na : NewAt n d.ps.length A5) (nd : NewAt n d.qs.length D5) (hlo : g < n) (hln : lo ≤ n) :
    StO w g lo (s.put t d) (a.put t A5 D5 c5 e5) := by
  intro k hk
  by_cases hkt : k = t
  · subst hkt
    have e1 : (s.put k d).tid k = d := if_pos rfl
    have e2 : (a.put k A5 D5 c5 e5).A k = A5 := if_pos rfl
    have e3 : (a.put k A5 D5 c5 e5).D k = D5 := if_pos rfl
    rw [e1, e2, e3]
    exact ⟨r, ⟨na.off hlo, nd.off hlo⟩, na.mono hln, nd.mono hln⟩
  · have e1 : (s.put t d).tid k = s.tid k := if_neg hkt
    have e2 : (a.put t A5 D5 c5 e5).A k = a.A k := if_neg hkt
    have e3 : (a.put t A5 D5 c5 e5).D k = a.D k := if_neg hkt
    rw [e1, e2, e3]
    exact h k hk
theorem StO.gr {w : World} {g lo : Nat} {s s' : Sta} {a : Sad} (h : StO w g lo s a) (e : ∀ k, k < 3 → s'.tid k = s.tid k) : StO w g lo s' a := fun k hk => by rw [e k hk]; exact h k hk
theorem pends_tid (s : Sta) : ∀ l : List Pd, ∀ k, (s.pends l).tid k = s.tid k
  | [], _ => rfl
  | p :: l, k => pends_tid (s.pend p) l k
theorem pends_snoc (s : Sta) (l : List Pd) (p : Pd) : s.pends (l ++ [p]) = (s.pends l).pend p := by
  unfold Sta.pends
  rw [List.foldl_append]; rfl
theorem pends_put (t : Nat) (d : Co) : ∀ (l : List Pd) (s : Sta), (s.pends l).put t d = (s.put t d).pends l
  | [], _ => rfl
  | p :: l, s => pends_put t d l (s.pend p)
theorem st_mkmade {W : World} {b : Nat} {t : TypeId} {s : Sta} {a : Sad} (h : Blk W b t (stX s a)) (n : Int) :
    ∃ W', (storeVar 3 ⟨b, 0, none⟩ (.int .i64 n)).run Tryd.prog W = .ok () W' ∧ Blk W' b t (stX { s with made := n } a) ∧ (∀ m (w : World), m ≤ b → Below m w W → Below m w W') ∧ (∀ y, y ≠ b → W'.heap[y]? = W.heap[y]?) ∧ W'.heap.size = W.heap.size := by
  exact ⟨_, store_intS n (h.cell 0) (h.frozen 0), st_setmade h n, fun m w hb hB => hB.setCell (p := ⟨b, 0, none⟩) hb _, fun y hy => Below.heap_setCell _ _ _ _ hy, by simp [World.setCell]⟩
theorem st_mkgr {W : World} {b : Nat} {t : TypeId} {s : Sta} {a : Sad} (h : Blk W b t (stX s a)) (gn qn : Nat) (hg : gn < 2) (hq : qn < 3) (p : Pd) (h1 : p.1 = (gn : Int)) (h2 : p.2.1 = (qn : Int)) :
    ∃ W', (storeVar 3 ⟨b, 25 + gn * 3 + qn, none⟩ (.int .i64 p.2.2)).run Tryd.prog W = .ok () W' ∧ Blk W' b t (stX (s.pend p) a) ∧ (∀ m (w : World), m ≤ b → Below m w W → Below m w W') ∧ (∀ y, y ≠ b → W'.heap[y]? = W.heap[y]?) ∧ W'.heap.size = W.heap.size := by
  have hlt : gn * 3 + qn < 6 := by omega
  have hc := st_gr h (gn * 3 + qn) hlt
  have hk := st_setgr h (gn * 3 + qn) hlt p.2.2
  rw [← Nat.add_assoc] at hc hk
  have hs : s.pend p = s.setGr (gn * 3 + qn) p.2.2 := by unfold Sta.pend; rw [h1, h2]; rfl
  rw [hs]
  exact ⟨_, store_intS _ hc (h.frozen _), hk, fun m w hb hB => hB.setCell (p := ⟨b, 25 + gn * 3 + qn, none⟩) hb _, fun y hy => Below.heap_setCell _ _ _ _ hy, by simp [World.setCell]⟩
theorem st_mkput {W : World} {b : Nat} {t : TypeId} {s : Sta} {a : Sad} (h : Blk W b t (stX s a)) (k : Nat) (hk : k < 3) (d : Co) (A5 D5 : Option Addr) (c5 e5 : Nat) :
    ∃ W', (storeVar 26 ⟨b, 1 + k * 8, none⟩ (.agg #[.int .i8 d.st, .int .i64 d.pid, .int .i64 d.ep, .int .i64 d.tm, .int .i64 d.th, .slice A5 d.ps.length c5, .slice D5 d.qs.length e5, .int .i64 d.ag])).run Tryd.prog W = .ok () W' ∧ Blk W' b t (stX (s.put k d) (a.put k A5 D5 c5 e5)) ∧ (∀ m (w : World), m ≤ b → Below m w W → Below m w W') ∧ (∀ y, y ≠ b → W'.heap[y]? = W.heap[y]?) ∧ W'.heap.size = W.heap.size := st_put h k hk d A5 D5 c5 e5
/-- What move leaves. -/
def MoP (s : Sta) (m : Mt) (g lo : Nat) (w : World) (e : Ending) (w' : World) : Prop :=
  Below g w w' ∧ w.heap.size ≤ w'.heap.size ∧
    ((toE s m = 0 ∧ e = .returned .nilIface ∧ ∃ a, Blk w' g 31 (stX (toS s m) a) ∧ StO w' g lo (toS s m) a) ∨
      (¬ toE s m = 0 ∧ ∃ b, e = .returned (.iface 65 (.pointer (some ⟨b, 0, none⟩))) ∧ w'.cell? ⟨b, 1, none⟩ = some (.int .i64 (toE s m))))
/-! What an entry that may be is like. -/
theorem mayM_fit {m : Mt} (h : mayM m = true) : sameM m (bareM m) = true ∧ 0 ≤ m.tid ∧ m.tid < 3 ∧ fitM m = true := by
  unfold mayM at h
  simpa only [Bool.and_eq_true, decide_eq_true_eq] using h
theorem fit_kd {m : Mt} (h : fitM m = true) : 0 ≤ m.kd ∧ m.kd ≤ 7 := by
  unfold fitM at h
  by_cases h0 : m.kd = 0 ∨ m.kd = 4
  · omega
  by_cases h1 : m.kd = 1
  · omega
  by_cases h2 : m.kd = 2 ∨ m.kd = 5
  · omega
  by_cases h3 : m.kd = 3
  · omega
  by_cases h6 : m.kd = 6
  · omega
  by_cases h7 : m.kd = 7
  · omega
  rw [if_neg h0, if_neg h1, if_neg h2, if_neg h3, if_neg h6, if_neg h7] at h
  cases h
theorem chk_fresh {c : Co} (h : mayB c = true) (h0 : c.st = 0) : chkE c 0 true = 0 := by
  unfold chkE beginsB
  rw [if_neg (by simp [h]), h0]
  simp
theorem init_fresh {c : Co} {n tm : Int} (h : mayB c = true) (h0 : c.st = 0) (h1 : 1 ≤ n) (h2 : n ≤ 8) (h3 : 1 ≤ tm) (h4 : tm ≤ 20) : initE c n tm = 0 ∧ initC c n tm = ⟨1, n, 0, tm, 0, [], [], 0⟩ := by
  have he : initE c n tm = 0 := by
    unfold initE
    rw [if_neg (by omega), if_neg (by rw [chk_fresh h h0]; simp), if_neg]
    rw [may_none h h0]; decide
  refine ⟨he, ?_⟩
  unfold initC
  rw [if_pos he, if_pos h0]
theorem init_old {c : Co} {n k tm : Int} (h0 : ¬ c.st = 0) (hn : 1 ≤ n ∧ n ≤ 8) (hk : 1 ≤ k ∧ k ≤ 8) : initE c n tm = initE c k tm ∧ initC c n tm = initC c k tm := by
  have he : initE c n tm = initE c k tm := by
    unfold initE
    by_cases ht : 1 ≤ tm ∧ tm ≤ 20
    · rw [if_neg (show ¬ ¬ (1 ≤ n ∧ n ≤ 8 ∧ 1 ≤ tm ∧ tm ≤ 20) from fun h => h ⟨hn.1, hn.2, ht⟩), if_neg (show ¬ ¬ (1 ≤ k ∧ k ≤ 8 ∧ 1 ≤ tm ∧ tm ≤ 20) from fun h => h ⟨hk.1, hk.2, ht⟩)]
    · rw [if_pos (show ¬ (1 ≤ n ∧ n ≤ 8 ∧ 1 ≤ tm ∧ tm ≤ 20) from fun h => ht h.2.2), if_pos (show ¬ (1 ≤ k ∧ k ≤ 8 ∧ 1 ≤ tm ∧ tm ≤ 20) from fun h => ht h.2.2)]
  refine ⟨he, ?_⟩
  unfold initC
  rw [he, if_neg h0, if_neg h0]
end Go.Proofs.YtbpkckahonmpkaaDoor
