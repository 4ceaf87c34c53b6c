/-
  Layer 18: states.inRange, states.May.
  Layer 18: copies of lists; the document's rise; a state within its ranges.
  Layer 18: a transactional id: whether two are the same; within its ranges; whether it may be.
-/
import Derived.Test.YtbpkckahonmpkaaDoorMeBackProofP01
set_option linter.unusedVariables false
set_option linter.unusedSimpArgs false
namespace Go.Proofs.YtbpkckahonmpkaaDoor
open Go.RowKit

theorem infoI : (Tryd.prog.info? 3).map (fun i => (i.zero, i.size, i.bytes)) = some (some (.int .i64 0), 1, 8) := by kernel_rfl
theorem infoP : (Tryd.prog.info? 33).map (fun i => (i.zero, i.size, i.bytes)) = some (some (.agg #[.int .i64 0, .int .i64 0, .int .i64 0]), 3, 24) := by kernel_rfl

/-- A slice with an element lies from a block on. -/
def NewAt (lo n : Nat) (A : Option Addr) : Prop := 0 < n → ∃ ad, A = some ad ∧ lo ≤ ad.block
theorem NewAt.none_ {lo : Nat} {A : Option Addr} : NewAt lo 0 A := fun h => by omega
theorem NewAt.mono {lo lo' n : Nat} {A : Option Addr} (h : NewAt lo n A) (hl : lo' ≤ lo) : NewAt lo' n A := fun hn => by
  obtain ⟨ad, e, hb⟩ := h hn
  exact ⟨ad, e, by omega⟩
theorem newAt_of_own {w : World} {base : Nat} {e : TypeId} {size n c : Nat} {A : Option Addr} {xs : List Value} (h : w.ownsRow base e size (.slice A n c) n xs) : NewAt base n A := fun hn => by
  obtain ⟨g, cap, hv, _⟩ := h.form hn
  injection hv with hv
  subst hv
  exact ⟨_, rfl, (h.lt g rfl).1⟩
theorem Reads.away {w : World} {B size n lo : Nat} {A : Option Addr} {xs : List Value} (h : Reads w B size A n xs) (hf : NewAt lo n A) {p : Addr} (hp : p.block < lo) (u : Value) : Reads (w.setCell p u) B size A n xs :=
  ⟨h.1, fun hn => by
    obtain ⟨ad, e, hb, hc⟩ := h.2 hn
    obtain ⟨ad', e', hb'⟩ := hf hn
    rw [e] at e'
    injection e' with e'
    subst e'
    refine ⟨ad, e, hb, fun j v hv => ?_⟩
    rw [World.cell?_setCell_other w p _ u (fun e => by have := congrArg Addr.block e; rw [block_of_add] at this; omega)]
    exact hc j v hv⟩

/-- A copy: a slice that reads as the list. -/
def CopyPost (size : Nat) (n : Nat) (xs : List Value) (w : World) (e : Ending) (w' : World) : Prop :=
  ∃ A c, e = .returned (.slice A n c) ∧ Reads w' w'.heap.size size A n xs ∧ n ≤ c ∧ Below w.heap.size w w' ∧ NewAt w.heap.size n A

theorem own_empty' (w : World) (t : TypeId) (size : Nat) : (w.alloc (.cells #[] t)).ownsRow w.heap.size t size (.slice (some ⟨w.heap.size, 0, none⟩) 0 0) 0 [] :=
  ⟨by simp, .inr ⟨w.heap.size, 0, _, rfl, Nat.le_refl _, heap_alloc_new w _, Nat.le_refl _, by unfold maxLen; omega, by simp, by simp⟩⟩

set_option maxHeartbeats 400000 in
theorem CloneI_any (A : Option Addr) (l : List Int) (c : Nat) (w : World) (hr : Reads w w.heap.size 1 A l.length (cellsI .i64 l)) (hl : l.length ≤ 1000000) :
    Calls Tryd.prog 44 #[.slice A l.length c] w (CopyPost 1 l.length (cellsI .i64 l) w) := by
  obtain ⟨i0, hi, hz0, hz1, hz2⟩ := info_parts infoI
  have HR := Lib.hid hr
  cases A with
  | none =>
    have hn : l = [] := by
      rcases Nat.eq_zero_or_pos l.length with h0 | h0
      · exact List.eq_nil_of_length_eq_zero h0
      · obtain ⟨ad, hx, _⟩ := hr.2 h0
        cases hx
    subst hn
    clear hr
    have hnil := fun W => Lib.run_eql_slice_nil (P := Tryd.prog) W 23 _ none 0 c 0 0 Tryd.underlying23
    go_enter Tryd.func44, Tryd.ntmps44
    go_wp2
    go_ret
    exact ⟨none, 0, rfl, Reads.none_, Nat.le_refl _, Below.refl _ _, NewAt.none_⟩
  | some ad =>
    clear hr
    have hnil := fun W => Lib.run_eql_slice_nil (P := Tryd.prog) W 23 _ (some ad) l.length c 0 0 Tryd.underlying23
    go_enter Tryd.func44, Tryd.ntmps44
    go_wp2_with (at_builtin; refine wpList_append_any _ rfl (.tmp 5) (.tmp 6) 23 rfl w.heap.size 3 i0 (.int .i64 0) 1 8 Tryd.underlying23 hi hz0 hz1 hz2 rfl (by decide) (.slice (some ⟨w.heap.size, 0, none⟩) 0 0) 0 [] rfl (own_empty' _ _ _) w.heap.size (some ad) l.length c (cellsI .i64 l) rfl (HR.out.alloc (Nat.le_refl _) _) (cellsI_one _) (by unfold maxLen; omega) (by omega) (by simp) ?_; intro v3 w3 hown3 hg3 hat3)
    go_ret
    rw [Nat.zero_add, List.nil_append] at hown3
    obtain ⟨A3, c3, rfl, hc3⟩ := own_slice hown3
    exact ⟨A3, c3, rfl, Reads.of_own hown3, hc3, ((Below.refl _ w).alloc (Nat.le_refl _) _).grown hg3 (by simp) (fun k e => by simp [Value.ownBlock] at e; omega), newAt_of_own hown3⟩

set_option maxHeartbeats 400000 in
theorem CloneP_any (A : Option Addr) (l : List Pd) (c : Nat) (w : World) (hr : Reads w w.heap.size 3 A l.length (cellsP l)) (hl : l.length ≤ 1000000) :
    Calls Tryd.prog 45 #[.slice A l.length c] w (CopyPost 3 l.length (cellsP l) w) := by
  obtain ⟨i0, hi, hz0, hz1, hz2⟩ := info_parts infoP
  have HR := Lib.hid hr
  cases A with
  | none =>
    have hn : l = [] := by
      rcases Nat.eq_zero_or_pos l.length with h0 | h0
      · exact List.eq_nil_of_length_eq_zero h0
      · obtain ⟨ad, hx, _⟩ := hr.2 h0
        cases hx
    subst hn
    clear hr
    have hnil := fun W => Lib.run_eql_slice_nil (P := Tryd.prog) W 24 _ none 0 c 0 0 Tryd.underlying24
    go_enter Tryd.func45, Tryd.ntmps45
    go_wp2
    go_ret
    exact ⟨none, 0, rfl, Reads.none_, Nat.le_refl _, Below.refl _ _, NewAt.none_⟩
  | some ad =>
    clear hr
    have hnil := fun W => Lib.run_eql_slice_nil (P := Tryd.prog) W 24 _ (some ad) l.length c 0 0 Tryd.underlying24
    go_enter Tryd.func45, Tryd.ntmps45
    go_wp2_with (at_builtin; refine wpList_append_any _ rfl (.tmp 5) (.tmp 6) 24 rfl w.heap.size 33 i0 _ 3 24 Tryd.underlying24 hi hz0 hz1 hz2 rfl (by decide) (.slice (some ⟨w.heap.size, 0, none⟩) 0 0) 0 [] rfl (own_empty' _ _ _) w.heap.size (some ad) l.length c (cellsP l) rfl (HR.out.alloc (Nat.le_refl _) _) (cellsP_one _) (by unfold maxLen; omega) (by omega) (by simp) ?_; intro v3 w3 hown3 hg3 hat3)
    go_ret
    rw [Nat.zero_add, List.nil_append] at hown3
    obtain ⟨A3, c3, rfl, hc3⟩ := own_slice hown3
    exact ⟨A3, c3, rfl, Reads.of_own hown3, hc3, ((Below.refl _ w).alloc (Nat.le_refl _) _).grown hg3 (by simp) (fun k e => by simp [Value.ownBlock] at e; omega), newAt_of_own hown3⟩

/-- What rise asks of the first k partitions. -/
def RiseTo (l : List Int) (k : Nat) : Prop := Adj ltP l k ∧ ∀ j x, j < k → l[j]? = some x → 0 ≤ x ∧ x < 3
open Classical in
noncomputable def riseB (l : List Int) : Bool := decide (RiseTo l l.length)
theorem riseB_true {l : List Int} (h : RiseTo l l.length) : riseB l = true := by unfold riseB; simpa using h
theorem riseB_false {l : List Int} (h : ¬ RiseTo l l.length) : riseB l = false := by unfold riseB; simpa using h

set_option maxRecDepth 100000 in
set_option maxHeartbeats 1000000 in
theorem rise_any (A : Option Addr) (l : List Int) (c B : Nat) (w : World) (hr : Reads w B 1 A l.length (cellsI .i64 l)) (hl : l.length ≤ 1000000) :
    Calls Tryd.prog 40 #[.slice A l.length c] w fun e w' => e = .returned (.bool (riseB l)) ∧ w = w' := by
  have HR := Lib.hid hr
  clear hr
  go_enter Tryd.func40, Tryd.ntmps40
  go_wp2_with fail
  go_loop [3, 4] (fun y x => ∃ (k : Nat) (z : Int), k ≤ l.length ∧ x = .int .i64 k ∧ y = .int .i64 z ∧ (k = 0 ∧ z = -1 ∨ 0 < k ∧ l[k - 1]? = some z) ∧ RiseTo l k) (fun _ x => l.length - (intOf x).toNat)
  case atStart => exact ⟨0, -1, Nat.zero_le _, rfl, rfl, .inl ⟨rfl, rfl⟩, Adj.one (by omega), fun j x hj => by omega⟩
  case round =>
    obtain ⟨k, z, hk, rfl, rfl, hz, hrt⟩ := hrel
    have HRT := Lib.hid hrt
    have HZ := Lib.hid hz
    have hzge : -1 ≤ z ∧ z < 3 := by
      rcases hz with ⟨_, rfl⟩ | ⟨h0, h1⟩
      · omega
      · have := hrt.2 (k - 1) z (by omega) h1; omega
    clear hrt hz
    by_cases hlt : k < l.length
    · have d1 : decide ((k : Int) < (l.length : Int)) = true := by simp; omega
      obtain ⟨b1, o1, rfl, _, hc1⟩ := HR.out.plain (by omega)
      obtain ⟨x, hx⟩ : ∃ z, l[k]? = some z := ⟨_, List.getElem?_eq_getElem hlt⟩
      have g1 := hc1 k _ (by rw [getElem?_cellsI, hx]; rfl)
      have HX := Lib.hid hx
      clear hc1 hx
      by_cases h1 : x ≤ z
      · have d2 : decide (x ≤ z) = true := by simpa using h1
        have hf : riseB l = false := riseB_false (fun h => by
          rcases HZ.out with ⟨_, rfl⟩ | ⟨h0, h2⟩
          · have := h.2 k x (by omega) HX.out; omega
          · have : z < x := h.1 (k - 1) z x (by omega) h2 (by rw [show k - 1 + 1 = k by omega]; exact HX.out)
            omega)
        have HF := Lib.hid hf
        clear hf
        go_wp2_with fail
        go_ret
        exact ⟨ret_bool HF.out.symm, rfl⟩
      · have d2 : decide (x ≤ z) = false := by simpa using h1
        by_cases h3 : 3 ≤ x
        · have d3 : decide (3 ≤ x) = true := by simpa using h3
          have hf : riseB l = false := riseB_false (fun h => by have := h.2 k x (by omega) HX.out; omega)
          have HF := Lib.hid hf
          clear hf
          go_wp2_with fail
          go_ret
          exact ⟨ret_bool HF.out.symm, rfl⟩
        · have d3 : decide (3 ≤ x) = false := by simpa using h3
          have hnew : RiseTo l (k + 1) := by
            refine ⟨?_, fun j y hj hy => ?_⟩
            · rcases HZ.out with ⟨h0, _⟩ | ⟨h0, h2⟩
              · exact Adj.one (by omega)
              · exact HRT.out.1.step (by omega) h2 HX.out (show z < x by omega)
            · rcases Nat.lt_or_ge j k with h5 | h5
              · exact HRT.out.2 j y h5 hy
              · obtain rfl : j = k := by omega
                rw [HX.out] at hy
                injection hy with hy
                omega
          have HN := Lib.hid hnew
          clear hnew
          go_wp2_with fail
          go_round
          case rel => exact ⟨k + 1, x, by omega, by go_num, rfl, .inr ⟨by omega, by rw [Nat.add_sub_cancel]; exact HX.out⟩, HN.out⟩
          case measure => simp [intOf]; omega
    · obtain rfl : k = l.length := by omega
      have d1 : decide ((l.length : Int) < (l.length : Int)) = false := by simp
      have HF := Lib.hid (riseB_true HRT.out)
      go_wp2_with fail
      go_ret
      exact ⟨ret_bool HF.out.symm, rfl⟩

theorem riseB_parts (l : List Int) : riseB l = partsB l := by
  have key : RiseTo l l.length ↔ partsB l = true := by
    unfold partsB
    constructor
    · intro h
      rw [Bool.and_eq_true]
      refine ⟨adjB_true h.1, ?_⟩
      by_cases h0 : l.length = 0
      · simp [h0]
      · have hx : l[0]? = some (l.getD 0 0) := by rw [List.getD_eq_getElem?_getD, List.getElem?_eq_getElem (by omega)]; rfl
        have hy : l[l.length - 1]? = some (l.getD (l.length - 1) 0) := by rw [List.getD_eq_getElem?_getD, List.getElem?_eq_getElem (by omega)]; rfl
        have h1 := h.2 0 _ (by omega) hx
        have h2 := h.2 _ _ (by omega) hy
        rw [Bool.or_eq_true]
        right
        unfold partB
        simp only [Bool.and_eq_true, decide_eq_true_eq]
        exact ⟨h1, h2⟩
    · intro h
      rw [Bool.and_eq_true] at h
      obtain ⟨h1, h2⟩ := h
      have hadj : Adj ltP l l.length := by
        unfold adjB at h1
        simpa using h1
      refine ⟨hadj, fun j x hj hx => ?_⟩
      have h0 : l.length ≠ 0 := by omega
      rw [Bool.or_eq_true] at h2
      rcases h2 with h2 | h2
      · simp at h2; subst h2; simp at h0
      · unfold partB at h2
        simp only [Bool.and_eq_true, decide_eq_true_eq] at h2
        have hx0 : l[0]? = some (l.getD 0 0) := by rw [List.getD_eq_getElem?_getD, List.getElem?_eq_getElem (by omega)]; rfl
        have hy0 : l[l.length - 1]? = some (l.getD (l.length - 1) 0) := by rw [List.getD_eq_getElem?_getD, List.getElem?_eq_getElem (by omega)]; rfl
        have mono : ∀ (d i : Nat) (a b : Int), l[i]? = some a → l[i + d]? = some b → a ≤ b := by
          intro d
          induction d with
          | zero =>
            intro i a b ha hb
            rw [Nat.add_zero, ha] at hb
            injection hb with hb
            omega
          | succ d ih =>
            intro i a b ha hb
            have hlt : i + (d + 1) < l.length := (List.getElem?_eq_some_iff.1 hb).1
            obtain ⟨c, hc⟩ : ∃ c, l[i + d]? = some c := ⟨_, List.getElem?_eq_getElem (by omega)⟩
            have h3 := ih i a c ha hc
            have h4 : c < b := hadj (i + d) c b (by omega) hc hb
            omega
        have m1 := mono j 0 _ _ hx0 (by rw [Nat.zero_add]; exact hx)
        have m2 := mono (l.length - 1 - j) j _ _ hx (by rw [show j + (l.length - 1 - j) = l.length - 1 by omega]; exact hy0)
        omega
  by_cases h : RiseTo l l.length
  · rw [riseB_true h, key.1 h]
  · rw [riseB_false h]
    cases hp : partsB l
    · rfl
    · exact absurd (key.2 hp) h
end Go.Proofs.YtbpkckahonmpkaaDoor
namespace Go.Proofs.YtbpkckahonmpkaaDoor
open Go.RowKit

structure Co where
  st : Int
  pid : Int
  ep : Int
  tm : Int
  th : Int
  ps : List Int
  qs : List Pd
  ag : Int

def Co0 : Co := ⟨0, 0, 0, 0, 0, [], [], 0⟩
/-- Its lists, as they lie in memory. -/
def CoR (w : World) (B : Nat) (c : Co) (A D : Option Addr) : Prop :=
  Reads w B 1 A c.ps.length (cellsI .i64 c.ps) ∧ Reads w B 3 D c.qs.length (cellsP c.qs) ∧ c.ps.length ≤ 1000 ∧ c.qs.length ≤ 1000
theorem CoR.below {w w' : World} {B : Nat} {c : Co} {A D : Option Addr} (h : CoR w B c A D) (hb : Below B w w') : CoR w' B c A D := ⟨h.1.below hb, h.2.1.below hb, h.2.2⟩
theorem CoR.more {w : World} {B B' : Nat} {c : Co} {A D : Option Addr} (h : CoR w B c A D) (hb : B ≤ B') : CoR w B' c A D := ⟨h.1.more hb, h.2.1.more hb, h.2.2⟩
theorem CoR.up {w w' : World} {c : Co} {A D : Option Addr} (h : CoR w w.heap.size c A D) (hb : Below w.heap.size w w') : CoR w' w'.heap.size c A D := (h.below hb).more hb.size
theorem CoR.al {w : World} {c : Co} {A D : Option Addr} (h : CoR w w.heap.size c A D) (o : Obj) : CoR (w.alloc o) (w.alloc o).heap.size c A D := h.up (bal (Below.refl _ _) o)
theorem CoR.zero (w : World) (B : Nat) (A D : Option Addr) : CoR w B Co0 A D := ⟨Reads.none_, Reads.none_, by decide, by decide⟩

def sameB (c d : Co) : Bool := (c.st == d.st) && ((c.pid == d.pid) && ((c.ep == d.ep) && ((c.tm == d.tm) && ((c.th == d.th) && ((c.ag == d.ag) && (decide (c.ps = d.ps) && decide (c.qs = d.qs)))))))
noncomputable def rangeB (c : Co) : Bool := c.qs.all pendB && (decide (1 ≤ c.pid) && (decide (c.pid ≤ 8) && (decide (0 ≤ c.ep) && (decide (c.ep ≤ 100) && (decide (1 ≤ c.tm) && (decide (c.tm ≤ 20) && (decide (0 ≤ c.ag) && (decide (c.ag ≤ 1048576) && (partsB c.ps && adjB aheadP c.qs)))))))))

set_option maxRecDepth 100000 in
set_option maxHeartbeats 1000000 in
theorem Same_any (c d : Co) (A1 D1 : Option Addr) (c1 e1 : Nat) (A2 D2 : Option Addr) (c2 e2 : Nat) (B1 B2 : Nat) (w : World) (h1 : CoR w B1 c A1 D1) (h2 : CoR w B2 d A2 D2) (hB1 : B1 ≤ w.heap.size) (hB2 : B2 ≤ w.heap.size) :
    Calls Tryd.prog 38 #[(.agg #[.int .i8 c.st, .int .i64 c.pid, .int .i64 c.ep, .int .i64 c.tm, .int .i64 c.th, .slice A1 c.ps.length c1, .slice D1 c.qs.length e1, .int .i64 c.ag]), (.agg #[.int .i8 d.st, .int .i64 d.pid, .int .i64 d.ep, .int .i64 d.tm, .int .i64 d.th, .slice A2 d.ps.length c2, .slice D2 d.qs.length e2, .int .i64 d.ag])] w fun e w' => e = .returned (.bool (sameB c d)) ∧ Below w.heap.size w w' := by
  obtain ⟨r1, q1, n1, m1⟩ := h1
  obtain ⟨r2, q2, n2, m2⟩ := h2
  have HB := Lib.hid (fun x y => bal (bal (Below.refl w.heap.size w) x) y)
  have HE := Lib.hid (fun x y => EqualI_any A1 A2 c.ps d.ps c1 c2 B1 B2 ((w.alloc x).alloc y) ((r1.alloc hB1 _).alloc (by simp; omega) _) ((r2.alloc hB2 _).alloc (by simp; omega) _) (by omega))
  have HQ := Lib.hid (fun x y (q : Nat) => EqualP_any D1 D2 c.qs d.qs e1 e2 B1 B2 (((w.alloc x).alloc y).drewN q) (((q1.alloc hB1 _).alloc (by simp; omega) _).drewN q) (((q2.alloc hB2 _).alloc (by simp; omega) _).drewN q) (by omega))
  have hs : sameB c d = ((c.st == d.st) && ((c.pid == d.pid) && ((c.ep == d.ep) && ((c.tm == d.tm) && ((c.th == d.th) && ((c.ag == d.ag) && (decide (c.ps = d.ps) && decide (c.qs = d.qs)))))))) := rfl
  generalize decide (c.ps = d.ps) = bp at *
  generalize decide (c.qs = d.qs) = bq at *
  have HS := Lib.hid hs
  clear r1 q1 r2 q2 hs
  go_enter Tryd.func38, Tryd.ntmps38
  go_wp2_with (first | (go_at_call 60; refine (HE.out _ _).mono ?_; rintro e w1 ⟨rfl, qa, rfl⟩) | (go_at_call 61; refine (HQ.out _ _ _).mono ?_; rintro e w1 ⟨rfl, qb, rfl⟩))
  all_goals go_ret
  all_goals refine ⟨ret_bool (by rw [HS.out]; simp [*]), ?_⟩
  all_goals first | exact HB.out _ _ | exact below_drewN (HB.out _ _) _ | exact below_drewN (below_drewN (HB.out _ _) _) _
end Go.Proofs.YtbpkckahonmpkaaDoor
namespace Go.Proofs.YtbpkckahonmpkaaDoor
open Go.RowKit

theorem all_take_succ {l : List Pd} {k : Nat} {x : Pd} (hx : l[k]? = some x) (h : (l.take k).all pendB = true) (hp : pendB x = true) : (l.take (k + 1)).all pendB = true := by
  rw [List.take_add_one, hx, List.all_append, h]
  simp [hp]
theorem all_not {l : List Pd} {k : Nat} {x : Pd} (hx : l[k]? = some x) (hp : pendB x = false) : l.all pendB = false := by
  rw [List.all_eq_false]
  exact ⟨x, List.mem_of_getElem? hx, by simp [hp]⟩

set_option maxRecDepth 100000 in
set_option maxHeartbeats 1000000 in
theorem inRange_any (c : Co) (A1 D1 : Option Addr) (c1 e1 : Nat) (B : Nat) (w : World) (h1 : CoR w B c A1 D1) (hB : B ≤ w.heap.size) :
    Calls Tryd.prog 63 #[(.agg #[.int .i8 c.st, .int .i64 c.pid, .int .i64 c.ep, .int .i64 c.tm, .int .i64 c.th, .slice A1 c.ps.length c1, .slice D1 c.qs.length e1, .int .i64 c.ag])] w fun e w' => e = .returned (.bool (rangeB c)) ∧ Below w.heap.size w w' := by
  obtain ⟨r1, q1, n1, m1⟩ := h1
  have R1 := Lib.hid (r1.more hB)
  have Q1 := Lib.hid (q1.more hB)
  clear r1 q1
  have hb0 : Below w.heap.size w (w.alloc (.cells #[.int .i8 c.st, .int .i64 c.pid, .int .i64 c.ep, .int .i64 c.tm, .int .i64 c.th, .slice A1 c.ps.length c1, .slice D1 c.qs.length e1, .int .i64 c.ag] 26)) := bal (Below.refl _ _) _
  have bk0 := Blk.new w 26 #[.int .i8 c.st, .int .i64 c.pid, .int .i64 c.ep, .int .i64 c.tm, .int .i64 c.th, .slice A1 c.ps.length c1, .slice D1 c.qs.length e1, .int .i64 c.ag]
  have HB0 := Lib.hid hb0
  have HK0 := Lib.hid bk0
  have hs : rangeB c = (c.qs.all pendB && (decide (1 ≤ c.pid) && (decide (c.pid ≤ 8) && (decide (0 ≤ c.ep) && (decide (c.ep ≤ 100) && (decide (1 ≤ c.tm) && (decide (c.tm ≤ 20) && (decide (0 ≤ c.ag) && (decide (c.ag ≤ 1048576) && (partsB c.ps && adjB aheadP c.qs)))))))))) := rfl
  have HS := Lib.hid hs
  clear hb0 bk0 hs
  go_enter Tryd.func63, Tryd.ntmps63
  go_wp2_with fail
  go_loopw [8] (fun x wr => ∃ k : Nat, k ≤ c.qs.length ∧ x = .int .i64 k ∧ (c.qs.take k).all pendB = true ∧ Below w.heap.size w wr ∧ w.heap.size < wr.heap.size ∧ Blk wr w.heap.size 26 #[.int .i8 c.st, .int .i64 c.pid, .int .i64 c.ep, .int .i64 c.tm, .int .i64 c.th, .slice A1 c.ps.length c1, .slice D1 c.qs.length e1, .int .i64 c.ag]) (fun x _ => c.qs.length - (intOf x).toNat)
  case atStart => exact ⟨0, Nat.zero_le _, rfl, by simp, HB0.out, by simp, HK0.out⟩
  case round =>
    obtain ⟨k, hk, rfl, hall, hbel, hsz, hblk⟩ := hrel
    have HALL := Lib.hid hall
    have HBEL := Lib.hid hbel
    have HBLK := Lib.hid hblk
    clear hall hbel hblk
    by_cases hlt : k < c.qs.length
    · have d1 : decide ((k : Int) < (c.qs.length : Int)) = true := by simp; omega
      obtain ⟨b1, o1, rfl, _, hc1⟩ := (Q1.out.below HBEL.out).plain3 (by omega)
      obtain ⟨x, hx⟩ : ∃ z, c.qs[k]? = some z := ⟨_, List.getElem?_eq_getElem hlt⟩
      obtain ⟨g1, g2, g3⟩ := hc1 k _ hx
      have HX := Lib.hid hx
      have HP := Lib.hid (fun W => isPend_any x W)
      clear hc1 hx
      go_wp2_with fail
      refine (HP.out _).mono ?_
      rintro e w2 ⟨rfl, b2⟩
      have b3 := btrans (bal HBEL.out (.cells #[.int .i64 x.1, .int .i64 x.2.1, .int .i64 x.2.2] 33)) b2
      have hz3 := b2.size
      rw [World.size_alloc] at hz3
      have B3 := Lib.hid b3
      have BK3 := Lib.hid ((HBLK.out.alloc (.cells #[.int .i64 x.1, .int .i64 x.2.1, .int .i64 x.2.2] 33)).below b2 (by simp; omega))
      clear b2 b3
      cases hpx : pendB x
      · have HF := Lib.hid (show rangeB c = false by rw [HS.out, all_not HX.out hpx]; rfl)
        clear hpx
        go_wp2_with fail
        go_ret
        exact ⟨ret_bool HF.out.symm, B3.out⟩
      · have HN := Lib.hid (all_take_succ HX.out HALL.out hpx)
        clear hpx
        go_wp2_with fail
        go_roundw
        case rel => exact ⟨k + 1, by omega, by go_num, HN.out, B3.out, by omega, BK3.out⟩
        case measure => simp [intOf]; omega
    · obtain rfl : k = c.qs.length := by omega
      have d1 : decide ((c.qs.length : Int) < (c.qs.length : Int)) = false := by simp
      have g1 := HBLK.out.cell 1
      have g2 := HBLK.out.cell 2
      have g3 := HBLK.out.cell 3
      have g5 := HBLK.out.cell 5
      have g6 := HBLK.out.cell 6
      have g7 := HBLK.out.cell 7
      have hall := HALL.out
      rw [List.take_length] at hall
      have HA := Lib.hid hall
      have HAP := Lib.hid (areParts_any A1 c.ps c1 w.heap.size wr (R1.out.below HBEL.out) (by omega))
      have HRP := Lib.hid (fun q => risingP_any D1 c.qs e1 (wr.drewN q) (((Q1.out.below HBEL.out).more HBEL.out.size).drewN q) (by omega))
      clear hall
      generalize partsB c.ps = bp at *
      generalize adjB aheadP c.qs = bq at *
      go_wp2_with (first | (go_at_call 78; refine HAP.out.mono ?_; rintro e w1 ⟨rfl, qa, rfl⟩) | (go_at_call 79; refine (HRP.out _).mono ?_; rintro e w1 ⟨rfl, hbr⟩))
      all_goals go_ret
      all_goals refine ⟨ret_bool (by rw [HS.out, HA.out]; simp [*] <;> (intros; omega)), ?_⟩
      all_goals first | exact HBEL.out | exact below_drewN HBEL.out _ | exact btrans (below_drewN HBEL.out _) hbr
end Go.Proofs.YtbpkckahonmpkaaDoor
