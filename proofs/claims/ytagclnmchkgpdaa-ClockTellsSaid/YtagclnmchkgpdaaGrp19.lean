/-
  Arguments that are whole states, opened.
  Layer 21, in plain words: states that grow older, or are made young.
  Arguments with lists of numbers and of offsets, opened: how their lists lie in memory. (After the guide's page on structs.)
-/
import Derived.Test.YtagclnmchkgpdaaGrp18
import Derived.Test.YtagclnmchkgpdaaGrp04
import Derived.Deep.Slices
import Derived.Deep.Fields
import Derived.ChangeSame
import Derived.OpenShut
import Derived.Lib.SmallJoins
set_option linter.unusedVariables false
set_option linter.unusedSimpArgs false
namespace Go.Proofs.Ytagclnmchkgpdaa
open Go.RowKit
theorem range_age {c : Co} (h : rangeB c = true) {x : Int} (h0 : 0 ≤ x) (h1 : x ≤ 1048576) : rangeB { c with ag := x } = true := by
  unfold rangeB at h ⊢
  simp only [Bool.and_eq_true, decide_eq_true_eq] at h ⊢
  exact ⟨h.1, h.2.1, h.2.2.1, h.2.2.2.1, h.2.2.2.2.1, h.2.2.2.2.2.1, h.2.2.2.2.2.2.1, h0, h1, h.2.2.2.2.2.2.2.2.2⟩
theorem tail_age {c : Co} (h : tailB c = true) {x : Int} (h0 : 0 ≤ x) (h1 : x ≤ 1048576) : tailB { c with ag := x } = true := by
  unfold tailB at h ⊢
  simp only [Bool.and_eq_true] at h ⊢
  exact ⟨h.1, range_age h.2 h0 h1⟩
theorem may_age {c : Co} (h : mayB c = true) (h2 : c.st = 2) {x : Int} (h0 : 0 ≤ x) (h1 : x ≤ 1048576) : mayB { c with ag := x } = true := by
  unfold mayB at h ⊢
  rw [if_neg (by omega), if_pos h2] at h
  rw [if_neg (show ¬ c.st = 0 by omega), if_pos (show c.st = 2 from h2)]
  simp only [Bool.and_eq_true] at h ⊢
  exact ⟨h.1, h.2.1, tail_age h.2.2 h0 h1⟩
theorem may_zeroS {c : Co} (h : mayB c = true) (h0 : c.st = 0) : c = Co0 := by
  unfold mayB at h
  rw [if_pos h0] at h
  unfold sameB at h
  simp only [Bool.and_eq_true, beq_iff_eq, decide_eq_true_eq] at h
  obtain ⟨st, pid, ep, tm, th, ps, qs, ag⟩ := c
  simp only [Co0] at h ⊢
  obtain ⟨a1, a2, a3, a4, a5, a6, a7, a8⟩ := h
  rw [a1, a2, a3, a4, a5, a6, a7, a8]
theorem may_young {c : Co} (h : mayB c = true) : mayB { c with ag := 0 } = true := by
  have hh := h
  unfold mayB at h
  by_cases h0 : c.st = 0
  · rw [may_zeroS hh h0]; exact may_zero
  by_cases h2 : c.st = 2
  · exact may_age hh h2 (Int.le_refl 0) (by decide)
  rw [if_neg h0, if_neg h2] at h
  unfold mayB
  rw [if_neg (show ¬ c.st = 0 from h0), if_neg (show ¬ c.st = 2 from h2)]
  by_cases h3 : c.st = 3
  · rw [if_pos h3] at h
    rw [if_pos (show c.st = 3 from h3)]
    simp only [Bool.and_eq_true] at h ⊢
    exact ⟨h.1, tail_age h.2 (Int.le_refl 0) (by decide)⟩
  rw [if_neg h3] at h
  rw [if_neg (show ¬ c.st = 3 from h3)]
  by_cases h4 : c.st = 4
  · rw [if_pos h4] at h
    rw [if_pos (show c.st = 4 from h4)]
    exact tail_age h (Int.le_refl 0) (by decide)
  rw [if_neg h4] at h
  rw [if_neg (show ¬ c.st = 4 from h4)]
  by_cases h5 : c.st = 1 ∨ c.st = 5 ∨ c.st = 6
  · rw [if_pos h5] at h
    rw [if_pos (show c.st = 1 ∨ c.st = 5 ∨ c.st = 6 from h5)]
    unfold idleB at h ⊢
    simp only [Bool.and_eq_true] at h ⊢
    exact ⟨h.1, rfl, h.2.2.1, h.2.2.2.1, range_age h.2.2.2.2 (Int.le_refl 0) (by decide)⟩
  · rw [if_neg h5] at h; cases h
/-- One that is n ticks older. -/
def tN (c : Co) (n : Nat) : Co := if c.st = 2 then { c with ag := min (c.ag + n) 1048576 } else c
def nowS (s : Sta) (n : Nat) : Sta := s.upto (fun k => tN (s.tid k) n) 3
theorem tN_st (c : Co) (n : Nat) : (tN c n).st = c.st := by unfold tN; split <;> rfl
theorem tN_pid (c : Co) (n : Nat) : (tN c n).pid = c.pid := by unfold tN; split <;> rfl
theorem tN_tm (c : Co) (n : Nat) : (tN c n).tm = c.tm := by unfold tN; split <;> rfl
theorem tN_may {c : Co} (h : mayB c = true) (n : Nat) : mayB (tN c n) = true := by
  unfold tN
  by_cases h2 : c.st = 2
  · rw [if_pos h2]
    have := may_tmag h h2
    exact may_age h h2 (by omega) (by omega)
  · rw [if_neg h2]; exact h
theorem tN_zero {c : Co} (h : mayB c = true) : tN c 0 = c := by
  unfold tN
  by_cases h2 : c.st = 2
  · rw [if_pos h2]
    have := may_tmag h h2
    have e : min (c.ag + (0 : Nat)) 1048576 = c.ag := by omega
    rw [e]
  · rw [if_neg h2]
theorem tN_succ {c : Co} (h : mayB c = true) (n : Nat) : tickC (tN c n) = tN c (n + 1) := by
  unfold tickC
  by_cases h2 : c.st = 2
  · rw [if_pos ⟨tN_may h n, by rw [tN_st]; exact h2⟩]
    unfold tN
    rw [if_pos h2, if_pos h2]
    have := may_tmag h h2
    congr 1
    show (if min (c.ag + n) 1048576 < 1048576 then min (c.ag + n) 1048576 + 1 else min (c.ag + n) 1048576) = min (c.ag + (n + 1 : Nat)) 1048576
    split <;> omega
  · rw [if_neg (fun z => h2 (by rw [← tN_st c n]; exact z.2))]
    unfold tN
    rw [if_neg h2, if_neg h2]
theorem mayS_upto {s : Sta} {fs : Nat → Co} (h : mayS s = true) (hp : ∀ k, k < 3 → (fs k).pid = (s.tid k).pid) (hm : ∀ k, k < 3 → mayB (fs k) = true) : mayS (s.upto fs 3) = true := by
  obtain ⟨h1, h2, h3, h4⟩ := (mayS_iff s).1 h
  refine (mayS_iff _).2 ⟨h1, h2, fun k hk => (okT_iff _ k).2 ?_, h4⟩
  obtain ⟨a1, a2, a3⟩ := (okT_iff s k).1 (h3 k hk)
  rw [upto_tid s fs hk]
  refine ⟨hm k hk, by rw [hp k hk]; exact a2, fun j hj => ?_⟩
  rw [upto_tid s fs (by omega), hp k hk, hp j (by omega)]
  exact a3 j hj
theorem mayS_tid {s : Sta} (h : mayS s = true) {k : Nat} (hk : k < 3) : mayB (s.tid k) = true := ((okT_iff s k).1 (((mayS_iff s).1 h).2.2.1 k hk)).1
theorem now_may {s : Sta} (h : mayS s = true) (n : Nat) : mayS (nowS s n) = true := mayS_upto h (fun k _ => tN_pid _ _) (fun k hk => tN_may (mayS_tid h hk) n)
theorem now_tid (s : Sta) (n : Nat) {k : Nat} (hk : k < 3) : (nowS s n).tid k = tN (s.tid k) n := upto_tid s _ hk
theorem upto_ge (s : Sta) (fs : Nat → Co) {k : Nat} (hk : ¬ k < 3) : (s.upto fs 3).tid k = s.tid k := if_neg hk
theorem now_zero {s : Sta} (h : mayS s = true) : nowS s 0 = s := sta_ext rfl (fun k => by
  by_cases hk : k < 3
  · rw [now_tid s 0 hk, tN_zero (mayS_tid h hk)]
  · exact upto_ge s _ hk) (fun _ => rfl)
theorem now_succ {s : Sta} (h : mayS s = true) (n : Nat) : tickS (nowS s n) = nowS s (n + 1) := by
  unfold tickS
  rw [if_pos (now_may h n)]
  refine sta_ext rfl (fun k => ?_) (fun _ => rfl)
  by_cases hk : k < 3
  · rw [upto_tid _ _ hk, now_tid s n hk, now_tid s (n + 1) hk, tN_succ (mayS_tid h hk)]
  · rw [upto_ge _ _ hk]
    exact (upto_ge s _ hk).trans (upto_ge s _ hk).symm
theorem young_tid {s : Sta} (h : mayS s = true) {k : Nat} (hk : k < 3) : (youngS s).tid k = { s.tid k with ag := 0 } := by
  unfold youngS; rw [if_pos h, upto_tid _ _ hk]
theorem young_made {s : Sta} : (youngS s).made = s.made := by unfold youngS; split <;> rfl
theorem young_gr {s : Sta} : (youngS s).gr = s.gr := by unfold youngS; split <;> rfl
theorem young_may {s : Sta} (h : mayS s = true) : mayS (youngS s) = true := by
  unfold youngS; rw [if_pos h]
  exact mayS_upto h (fun _ _ => rfl) (fun k hk => may_young (mayS_tid h hk))
theorem young_now {s : Sta} (h : mayS s = true) (n : Nat) : youngS (nowS s n) = youngS s := by
  unfold youngS
  rw [if_pos (now_may h n), if_pos h]
  refine sta_ext rfl (fun k => ?_) (fun _ => rfl)
  by_cases hk : k < 3
  · rw [upto_tid _ _ hk, upto_tid _ _ hk, now_tid s n hk]
    unfold tN
    split <;> rfl
  · rw [upto_ge _ _ hk, upto_ge _ _ hk]
    exact upto_ge s _ hk
theorem young_young {s : Sta} (h : mayS s = true) : youngS (youngS s) = youngS s := by
  have hy := young_may h
  refine sta_ext young_made (fun k => ?_) (fun g => by rw [young_gr])
  by_cases hk : k < 3
  · rw [young_tid hy hk, young_tid h hk]
  · unfold youngS at hy ⊢
    rw [if_pos h] at hy ⊢
    rw [if_pos hy, upto_ge _ _ hk]
theorem young_due {s : Sta} (h : mayS s = true) : dueS (youngS s) = [] := by
  unfold dueS
  rw [if_pos (young_may h)]
  have e : ∀ k, k < 3 → dueB ((youngS s).tid k) = false := fun k hk => by
    rw [young_tid h hk]
    unfold dueB
    by_cases h2 : (s.tid k).st = 2
    · have := may_tmag (mayS_tid h hk) h2
      show (((s.tid k).st == 2) && decide ((s.tid k).tm ≤ 0)) = false
      rw [decide_eq_false (by omega), Bool.and_false]
    · show (((s.tid k).st == 2) && decide ((s.tid k).tm ≤ 0)) = false
      rw [show ((s.tid k).st == 2) = false by simpa using h2, Bool.false_and]
  have d0 : dueL (youngS s) 0 = [] := rfl
  rw [dueL_succ, dueL_succ, dueL_succ, e 0 (by omega), e 1 (by omega), e 2 (by omega), d0]
  rfl
theorem now_left {s : Sta} (h : mayS s = true) (n : Nat) {k : Nat} (hk : k < 3) : leftS (nowS s n) (k : Int) = if (s.tid k).st = 2 then max ((s.tid k).tm - min ((s.tid k).ag + n) 1048576) 0 else -1 := by
  unfold leftS
  rw [Int.toNat_natCast, now_tid s n hk, tN_st]
  by_cases h2 : (s.tid k).st = 2
  · rw [if_pos ⟨by omega, by omega, now_may h n, h2⟩, if_pos h2, tN_tm]
    unfold tN
    rw [if_pos h2]
  · rw [if_neg (fun z => h2 z.2.2.2), if_neg h2]
theorem now_due {s : Sta} (h : mayS s = true) : dueS (nowS s 20) = (ongL s 3).map fun (j : Nat) => (j : Int) := by
  unfold dueS
  rw [if_pos (now_may h 20)]
  have e : ∀ k, k < 3 → dueB ((nowS s 20).tid k) = ((s.tid k).st == 2) := fun k hk => by
    rw [now_tid s 20 hk]
    unfold dueB
    rw [tN_st, tN_tm]
    by_cases h2 : (s.tid k).st = 2
    · have := may_tmag (mayS_tid h hk) h2
      unfold tN
      rw [if_pos h2]
      show (((s.tid k).st == 2) && decide ((s.tid k).tm ≤ min ((s.tid k).ag + (20 : Nat)) 1048576)) = _
      rw [decide_eq_true (by omega), Bool.and_true]
    · rw [show ((s.tid k).st == 2) = false by simpa using h2, Bool.false_and]
  unfold dueL ongL
  congr 1
  refine List.filter_congr fun k hk => ?_
  exact e k (List.mem_range.1 hk)
end Go.Proofs.Ytagclnmchkgpdaa
namespace Go.Proofs.Ytagclnmchkgpdaa
open Go.Joins Go.ChangeShapes Go.WideShapes Go.RowKit Go.Deep

section
variable {H : Type} {enc : TypeId × Value → H} {P : Program} {w : World} {base : Nat} {spare : Nat → Bool} {held : Bool}
theorem open_agg8 {r : Reach} {b0 : Nat} {t : TypeId} {f0 f1 f2 f3 f4 f5 f6 f7 : Field} {v : Value} {d : DataW H} {p : List MemPlace} (hs : P.underlying t = some (.struct #[f0, f1, f2, f3, f4, f5, f6, f7])) (hone : oneCellFields P #[f0, f1, f2, f3, f4, f5, f6, f7] = true) (hC : P.cellsOf t = 8)
    (hv : Value.okWide P w r b0 t v) (h : DataW.Trod enc P w base spare held t v d p) :
    ∃ (v0 v1 v2 v3 v4 v5 v6 v7 : Value) (y0 y1 y2 y3 y4 y5 y6 y7 : DataW H × List MemPlace) (n : Nat), v = .agg #[v0, v1, v2, v3, v4, v5, v6, v7] ∧ d = .agg [y0.1, y1.1, y2.1, y3.1, y4.1, y5.1, y6.1, y7.1] ∧ p = y0.2 ++ (y1.2 ++ (y2.2 ++ (y3.2 ++ (y4.2 ++ (y5.2 ++ (y6.2 ++ (y7.2))))))) ∧
      DataW.trod enc P w base spare held n f0.type [v0] = some y0 ∧ DataW.trod enc P w base spare held n f1.type [v1] = some y1 ∧ DataW.trod enc P w base spare held n f2.type [v2] = some y2 ∧ DataW.trod enc P w base spare held n f3.type [v3] = some y3 ∧ DataW.trod enc P w base spare held n f4.type [v4] = some y4 ∧ DataW.trod enc P w base spare held n f5.type [v5] = some y5 ∧ DataW.trod enc P w base spare held n f6.type [v6] = some y6 ∧ DataW.trod enc P w base spare held n f7.type [v7] = some y7 := by
  obtain ⟨cs, rfl, hsz⟩ := okWide_struct hs hv
  obtain ⟨l⟩ := cs
  match l, hsz.trans hC with
  | [c0, c1, c2, c3, c4, c5, c6, c7], _ =>
    obtain ⟨fuel, hf⟩ := h
    obtain ⟨xs, n, _, hx, _, hlen, hg⟩ := DataW.trod_struct hs hf
    obtain ⟨o0, k0⟩ := hone_of hone 0 f0 rfl
    obtain ⟨o1, k1⟩ := hone_of hone 1 f1 rfl
    obtain ⟨o2, k2⟩ := hone_of hone 2 f2 rfl
    obtain ⟨o3, k3⟩ := hone_of hone 3 f3 rfl
    obtain ⟨o4, k4⟩ := hone_of hone 4 f4 rfl
    obtain ⟨o5, k5⟩ := hone_of hone 5 f5 rfl
    obtain ⟨o6, k6⟩ := hone_of hone 6 f6 rfl
    obtain ⟨o7, k7⟩ := hone_of hone 7 f7 rfl
    match xs, hlen with
    | [y0, y1, y2, y3, y4, y5, y6, y7], _ =>
      simp only [Prod.mk.injEq] at hx
      exact ⟨c0, c1, c2, c3, c4, c5, c6, c7, y0, y1, y2, y3, y4, y5, y6, y7, n, rfl, by simpa using hx.1, by simpa using hx.2, by simpa [Value.cells, o0, k0] using hg 0 f0 rfl, by simpa [Value.cells, o1, k1] using hg 1 f1 rfl, by simpa [Value.cells, o2, k2] using hg 2 f2 rfl, by simpa [Value.cells, o3, k3] using hg 3 f3 rfl, by simpa [Value.cells, o4, k4] using hg 4 f4 rfl, by simpa [Value.cells, o5, k5] using hg 5 f5 rfl, by simpa [Value.cells, o6, k6] using hg 6 f6 rfl, by simpa [Value.cells, o7, k7] using hg 7 f7 rfl⟩

theorem open_slice_fields {t e : TypeId} {fs : Array Field} {fuel : Nat} {cs : List Value} {x : DataW H × List MemPlace} (ht : P.underlying t = some (.slice e)) (he : P.underlying e = some (.struct fs))
    (hone : oneCellFields P fs = true) (hC : P.cellsOf e = fs.size) (h : DataW.trod enc P w base spare held fuel t cs = some x) :
    (cs = [.slice none 0 0] ∧ x = (.nil, [])) ∨
    ∃ (a : Addr) (len cap m : Nat) (D : Nat → DataW H) (Pl : Nat → List MemPlace), cs = [.slice (some a) len cap] ∧ base ≤ a.block ∧ len ≤ cap ∧ cap ≤ maxLen ∧ m = (if spare a.block then cap else len) ∧
      x = (.slice ((List.range len).map D) ((List.range (m - len)).map fun j => D (len + j)), MemPlace.row a (m * fs.size) ++ (List.range m).flatMap Pl) ∧
      ∀ i, i < m → ∃ (ys : List (DataW H × List MemPlace)) (n : Nat), D i = .agg (ys.map (·.1)) ∧ Pl i = ys.flatMap (·.2) ∧ ys.length = fs.size ∧
        ∀ (j : Nat) (f : Field), fs[j]? = some f → ∃ (v : Value) (y : DataW H × List MemPlace), w.cell? (a.add (i * fs.size + j)) = some v ∧ ys[j]? = some y ∧ DataW.trod enc P w base spare held n f.type [v] = some y := by
  rcases open_slice ht h with h0 | ⟨a, len, cap, m, n, D, Pl, hcs, hb, hl, hm, hmm, hx, hi⟩
  · exact .inl h0
  · refine .inr ⟨a, len, cap, m, D, Pl, hcs, hb, hl, hm, hmm, by rw [hC] at hx; exact hx, fun i him => ?_⟩
    obtain ⟨cs', hc, ht'⟩ := hi i him
    rw [hC] at hc
    obtain ⟨ys, n', hn', hy, hlen, hyl, hf⟩ := DataW.trod_struct he ht'
    obtain ⟨_, hcl, hat⟩ := World.cells?_some hc
    simp only [Prod.mk.injEq] at hy
    refine ⟨ys, n', hy.1, hy.2, hyl, fun j f hj => ?_⟩
    obtain ⟨ho, hk⟩ := hone_of hone j f hj
    have hjl : j < fs.size := (Array.getElem?_eq_some_iff.1 hj).1
    have hcell := hat j hjl
    have hv : cs'[j]? = some (cs'[j]'(by omega)) := List.getElem?_eq_getElem (by omega)
    have h1 := hf j f hj
    rw [ho, hk] at h1
    have hone' : (cs'.drop j).take 1 = [cs'[j]'(by omega)] := by
      rw [List.drop_eq_getElem_cons (by omega)]
      rfl
    rw [hone'] at h1
    have hys : ys[j]? = some (ys[j]'(by omega)) := List.getElem?_eq_getElem (by omega)
    refine ⟨_, _, ?_, hys, h1.trans hys⟩
    rw [← Go.Deep.add_add, hcell, hv]
end

section
variable {H : Type} {enc : TypeId × Value → H} {W : World}
theorem cell_block {a : Addr} {k : Nat} {v : Value} (h : W.cell? (a.add k) = some v) : a.block < W.heap.size := by
  have := block_lt_of_cell h
  rwa [block_of_add] at this
theorem field_ints {fuel : Nat} {v : Value} {x : DataW H × List MemPlace} (h : DataW.trod enc Try.prog W 0 (fun _ => true) true fuel 23 [v] = some x) :
    ∃ (A : Option Addr) (c : Nat) (l : List Int), v = .slice A l.length c ∧ l.length ≤ c ∧ Reads W W.heap.size 1 A l.length (cellsI .i64 l) := by
  rcases open_ints Try.underlying23 Try.underlying3 (by kernel_rfl) h with ⟨hcs, _⟩ | ⟨a, len, cap, zs, hcs, _, hl, hm, hz, hx, hcell, hwz⟩
  · simp at hcs
    subst hcs
    exact ⟨none, 0, [], rfl, Nat.le_refl _, Reads.none_⟩
  · simp at hcs
    subst hcs
    simp only [if_true] at hz
    have hlen : (zs.take len).length = len := by rw [List.length_take]; omega
    refine ⟨some a, cap, zs.take len, by rw [hlen], by omega, by rw [length_cellsI]; omega, fun hn => ⟨a, rfl, cell_block (hcell 0 (by omega)), fun j u hu => ?_⟩⟩
    rw [getElem?_cellsI, Option.map_eq_some_iff] at hu
    obtain ⟨s, hs, rfl⟩ := hu
    have hj : j < len := by
      have := (List.getElem?_eq_some_iff.1 hs).1
      omega
    rw [List.getElem?_take_of_lt hj] at hs
    rw [hcell j (by omega)]
    simp [hs]
theorem cellsP_get : ∀ (l : List Pd) (j : Nat) (u : Value), (cellsP l)[j]? = some u → ∃ i k p, j = i * 3 + k ∧ k < 3 ∧ l[i]? = some p ∧ u = (if k = 0 then .int .i64 p.1 else if k = 1 then .int .i64 p.2.1 else .int .i64 p.2.2) := by
  intro l j u hu
  have hj : j < l.length * 3 := by
    have := (List.getElem?_eq_some_iff.1 hu).1
    rwa [length_cellsP] at this
  have hi : j / 3 < l.length := by omega
  obtain ⟨p, hp⟩ : ∃ p, l[j / 3]? = some p := ⟨_, List.getElem?_eq_getElem hi⟩
  obtain ⟨h0, h1, h2⟩ := cellsP_at l (j / 3) p hp
  refine ⟨j / 3, j % 3, p, by omega, by omega, hp, ?_⟩
  have hk : j % 3 = 0 ∨ j % 3 = 1 ∨ j % 3 = 2 := by omega
  rcases hk with hk | hk | hk
  · rw [show j = j / 3 * 3 by omega, h0] at hu
    rw [if_pos hk]
    exact (Option.some.inj hu).symm
  · rw [show j = j / 3 * 3 + 1 by omega, h1] at hu
    rw [if_neg (by omega), if_pos hk]
    exact (Option.some.inj hu).symm
  · rw [show j = j / 3 * 3 + 2 by omega, h2] at hu
    rw [if_neg (by omega), if_neg (by omega)]
    exact (Option.some.inj hu).symm
theorem field_pends {fuel : Nat} {v : Value} {x : DataW H × List MemPlace} (h : DataW.trod enc Try.prog W 0 (fun _ => true) true fuel 24 [v] = some x) :
    ∃ (A : Option Addr) (c : Nat) (l : List Pd), v = .slice A l.length c ∧ l.length ≤ c ∧ Reads W W.heap.size 3 A l.length (cellsP l) := by
  rcases open_slice_fields Try.underlying24 Try.underlying53 (by kernel_rfl) (by kernel_rfl) h with ⟨hcs, _⟩ | ⟨a, len, cap, m, D, Pl, hcs, _, hl, hm, hmm, hx, hi⟩
  · simp at hcs
    subst hcs
    exact ⟨none, 0, [], rfl, Nat.le_refl _, Reads.none_⟩
  · simp at hcs
    subst hcs
    simp only [if_true] at hmm
    subst hmm
    have hp : ∀ i, ∃ p : Pd, i < len → W.cell? (a.add (i * 3 + 0)) = some (.int .i64 p.1) ∧ W.cell? (a.add (i * 3 + 1)) = some (.int .i64 p.2.1) ∧ W.cell? (a.add (i * 3 + 2)) = some (.int .i64 p.2.2) := by
      intro i
      by_cases hlt : i < len
      · obtain ⟨ys, n, _, _, _, hf⟩ := hi i (by omega)
        obtain ⟨v0, y0, hc0, _, t0⟩ := hf 0 _ rfl
        obtain ⟨v1, y1, hc1, _, t1⟩ := hf 1 _ rfl
        obtain ⟨v2, y2, hc2, _, t2⟩ := hf 2 _ rfl
        obtain ⟨z0, e0, _, _⟩ := DataW.trod_int Try.underlying3 t0
        obtain ⟨z1, e1, _, _⟩ := DataW.trod_int Try.underlying3 t1
        obtain ⟨z2, e2, _, _⟩ := DataW.trod_int Try.underlying3 t2
        simp at e0 e1 e2
        subst e0; subst e1; subst e2
        exact ⟨(z0, z1, z2), fun _ => ⟨hc0, hc1, hc2⟩⟩
      · exact ⟨(0, 0, 0), fun h => absurd h hlt⟩
    refine ⟨some a, m, (List.range len).map fun i => Classical.choose (hp i), by simp, by simpa using hl, by rw [length_cellsP], fun hn => ⟨a, rfl, ?_, fun j u hu => ?_⟩⟩
    · simp at hn
      exact cell_block (Classical.choose_spec (hp 0) hn).1
    · obtain ⟨i, k, p, rfl, hk, hpi, rfl⟩ := cellsP_get _ j u hu
      rw [List.getElem?_map, Option.map_eq_some_iff] at hpi
      obtain ⟨i', hi', rfl⟩ := hpi
      have hlt : i < len := by
        have := (List.getElem?_eq_some_iff.1 hi').1
        simpa using this
      rw [List.getElem?_range hlt] at hi'
      obtain rfl : i = i' := by simpa using hi'
      obtain ⟨q0, q1, q2⟩ := Classical.choose_spec (hp i) hlt
      have hk3 : k = 0 ∨ k = 1 ∨ k = 2 := by omega
      rcases hk3 with rfl | rfl | rfl
      · exact q0
      · exact q1
      · exact q2

end
end Go.Proofs.Ytagclnmchkgpdaa
namespace Go.Proofs.Ytagclnmchkgpdaa
open Go.Joins Go.ChangeShapes Go.WideShapes Go.RowKit Go.Deep
section
variable {H : Type} {enc : TypeId × Value → H} {W : World}
set_option maxRecDepth 100000 in
theorem trod_coS {fuel : Nat} {cs : List Value} {x : DataW H × List MemPlace} (h : DataW.trod enc Try.prog W 0 (fun _ => true) true fuel 26 cs = some x) :
    ∃ (c : Co) (A D : Option Addr) (n m : Nat), cs = coL c A D n m ∧ Reads W W.heap.size 1 A c.ps.length (cellsI .i64 c.ps) ∧ Reads W W.heap.size 3 D c.qs.length (cellsP c.qs) ∧ -128 ≤ c.st ∧ c.st ≤ 127 := by
  obtain ⟨xs, n, _, _, hl, hlen, hg⟩ := DataW.trod_struct Try.underlying26 h
  have hC : Try.prog.cellsOf 26 = 8 := by kernel_rfl
  have ki : Try.prog.cellsOf 3 = 1 := by kernel_rfl
  have kb : Try.prog.cellsOf 22 = 1 := by kernel_rfl
  have kl : Try.prog.cellsOf 23 = 1 := by kernel_rfl
  have kp : Try.prog.cellsOf 24 = 1 := by kernel_rfl
  rw [hC] at hl
  match cs, hl with
  | [c0, c1, c2, c3, c4, c5, c6, c7], _ =>
    match xs, hlen with
    | [y0, y1, y2, y3, y4, y5, y6, y7], _ =>
      have t0 := hg 0 _ rfl
      have t1 := hg 1 _ rfl
      have t2 := hg 2 _ rfl
      have t3 := hg 3 _ rfl
      have t4 := hg 4 _ rfl
      have t5 := hg 5 _ rfl
      have t6 := hg 6 _ rfl
      have t7 := hg 7 _ rfl
      clear hg
      simp [kb] at t0
      simp [ki] at t1 t2 t3 t4 t7
      simp [kl] at t5
      simp [kp] at t6
      obtain ⟨z0, e0, _, w0⟩ := DataW.trod_int Try.underlying22 t0
      obtain ⟨z1, e1, _, _⟩ := DataW.trod_int Try.underlying3 t1
      obtain ⟨z2, e2, _, _⟩ := DataW.trod_int Try.underlying3 t2
      obtain ⟨z3, e3, _, _⟩ := DataW.trod_int Try.underlying3 t3
      obtain ⟨z4, e4, _, _⟩ := DataW.trod_int Try.underlying3 t4
      obtain ⟨A1, c1, l1, rfl, k1, r1⟩ := field_ints t5
      obtain ⟨D1, ee1, l2, rfl, k2, r2⟩ := field_pends t6
      obtain ⟨z7, e7, _, _⟩ := DataW.trod_int Try.underlying3 t7
      simp at e0 e1 e2 e3 e4 e7
      subst e0; subst e1; subst e2; subst e3; subst e4; subst e7
      have hw : -128 ≤ z0 ∧ z0 ≤ 127 := by
        simp only [Lit.wf, Bool.and_eq_true, decide_eq_true_eq] at w0
        exact ⟨w0.1, w0.2⟩
      exact ⟨⟨z0, z1, z2, z3, z4, l1, l2, z7⟩, A1, D1, c1, ee1, rfl, r1, r2, hw.1, hw.2⟩
set_option maxRecDepth 100000 in
theorem trod_row {fuel : Nat} {cs : List Value} {x : DataW H × List MemPlace} (h : DataW.trod enc Try.prog W 0 (fun _ => true) true fuel 28 cs = some x) :
    ∃ g0 g1 g2 : Int, cs = [.int .i64 g0, .int .i64 g1, .int .i64 g2] := by
  obtain ⟨xs, n, _, _, hl, hlen, hg⟩ := DataW.trod_array Try.underlying28 h
  have hC : Try.prog.cellsOf 28 = 3 := by kernel_rfl
  have ki : Try.prog.cellsOf 3 = 1 := by kernel_rfl
  rw [hC] at hl
  match cs, hl with
  | [c0, c1, c2], _ =>
    match xs, hlen with
    | [y0, y1, y2], _ =>
      have t0 := hg 0 (by decide)
      have t1 := hg 1 (by decide)
      have t2 := hg 2 (by decide)
      simp [ki] at t0 t1 t2
      obtain ⟨z0, e0, _, _⟩ := DataW.trod_int Try.underlying3 t0
      obtain ⟨z1, e1, _, _⟩ := DataW.trod_int Try.underlying3 t1
      obtain ⟨z2, e2, _, _⟩ := DataW.trod_int Try.underlying3 t2
      simp at e0 e1 e2
      subst e0; subst e1; subst e2
      exact ⟨z0, z1, z2, rfl⟩
theorem take_drop_split {α : Type} (l : List α) (a b : Nat) (hl : l.length = a + b) : l = (l.drop 0).take a ++ (l.drop a).take b := by
  rw [List.drop_zero, List.take_of_length_le (l := l.drop a) (by rw [List.length_drop]; omega), List.take_append_drop]
set_option maxRecDepth 100000 in
theorem open_st {r : Reach} {base : Nat} {v : Value} {d : DataW H} {p : List MemPlace} (hv : Value.okWide Try.prog W r base 31 v) (h : DataW.Trod enc Try.prog W 0 (fun _ => true) true 31 v d p) :
    ∃ (s : Sta) (a : Sad), v = .agg (stX s a) ∧ StRaw W s a := by
  obtain ⟨cs, rfl, _⟩ := okWide_struct Try.underlying31 hv
  obtain ⟨fuel, hf⟩ := h
  obtain ⟨xs, n, _, _, hl, hlen, hg⟩ := DataW.trod_struct Try.underlying31 hf
  have hC : Try.prog.cellsOf 31 = 31 := by kernel_rfl
  have ki : Try.prog.cellsOf 3 = 1 := by kernel_rfl
  have kt : Try.prog.cellsOf 27 = 24 := by kernel_rfl
  have kg : Try.prog.cellsOf 29 = 6 := by kernel_rfl
  have kc : Try.prog.cellsOf 26 = 8 := by kernel_rfl
  have kr : Try.prog.cellsOf 28 = 3 := by kernel_rfl
  rw [hC] at hl
  have hl' : cs.toList.length = 31 := hl
  obtain ⟨L, hL⟩ : ∃ L, L = cs.toList := ⟨_, rfl⟩
  have hcs : cs = L.toArray := by rw [hL]
  change ∀ (j : Nat) (f : Field), _ → DataW.trod enc Try.prog W 0 (fun _ => true) true n f.type ((cs.toList.drop f.offset).take (Try.prog.cellsOf f.type)) = xs[j]? at hg
  rw [← hL] at hg hl'
  match xs, hlen with
  | [y0, y1, y2], _ =>
    have t0 : DataW.trod enc Try.prog W 0 (fun _ => true) true n 3 ((L.drop 0).take (Try.prog.cellsOf 3)) = some y0 := hg 0 _ rfl
    have t1 : DataW.trod enc Try.prog W 0 (fun _ => true) true n 27 ((L.drop 1).take (Try.prog.cellsOf 27)) = some y1 := hg 1 _ rfl
    have t2 : DataW.trod enc Try.prog W 0 (fun _ => true) true n 29 ((L.drop 25).take (Try.prog.cellsOf 29)) = some y2 := hg 2 _ rfl
    clear hg
    rw [ki] at t0
    rw [kt] at t1
    rw [kg] at t2
    obtain ⟨m, e0, _, _⟩ := DataW.trod_int Try.underlying3 t0
    obtain ⟨xs1, n1, _, _, hl1, hlen1, hg1⟩ := DataW.trod_array Try.underlying27 t1
    obtain ⟨xs2, n2, _, _, hl2, hlen2, hg2⟩ := DataW.trod_array Try.underlying29 t2
    match xs1, hlen1 with
    | [u0, u1, u2], _ =>
      match xs2, hlen2 with
      | [q0, q1], _ =>
        have a0 := hg1 0 (by decide)
        have a1 := hg1 1 (by decide)
        have a2 := hg1 2 (by decide)
        have b0 := hg2 0 (by decide)
        have b1 := hg2 1 (by decide)
        rw [kc] at a0 a1 a2
        rw [kr] at b0 b1
        simp only [List.getElem?_cons_zero, List.getElem?_cons_succ] at a0 a1 a2 b0 b1
        obtain ⟨x0, A0, D0, n0, m0, f0, r0, s0, h0⟩ := trod_coS a0
        obtain ⟨x1, A1, D1, n1', m1, f1, r1, s1, h1⟩ := trod_coS a1
        obtain ⟨x2, A2, D2, n2', m2, f2, r2, s2, h2⟩ := trod_coS a2
        obtain ⟨g0, g1, g2, e3⟩ := trod_row b0
        obtain ⟨g3, g4, g5, e4⟩ := trod_row b1
        refine ⟨⟨m, fun k => if k = 0 then x0 else if k = 1 then x1 else x2, fun g => if g = 0 then g0 else if g = 1 then g1 else if g = 2 then g2 else if g = 3 then g3 else if g = 4 then g4 else g5⟩,
          ⟨fun k => if k = 0 then A0 else if k = 1 then A1 else A2, fun k => if k = 0 then D0 else if k = 1 then D1 else D2, fun k => if k = 0 then n0 else if k = 1 then n1' else n2', fun k => if k = 0 then m0 else if k = 1 then m1 else m2⟩, ?_, fun k hk => ?_⟩
        · rw [hcs]
          refine congrArg Value.agg (congrArg List.toArray ?_)
          show L = .int .i64 m :: ((coL x0 A0 D0 n0 m0 ++ (coL x1 A1 D1 n1' m1 ++ coL x2 A2 D2 n2' m2)) ++ [.int .i64 g0, .int .i64 g1, .int .i64 g2, .int .i64 g3, .int .i64 g4, .int .i64 g5])
          rw [← f0, ← f1, ← f2]
          rw [show ([.int .i64 g0, .int .i64 g1, .int .i64 g2, .int .i64 g3, .int .i64 g4, .int .i64 g5] : List Value) = [.int .i64 g0, .int .i64 g1, .int .i64 g2] ++ [.int .i64 g3, .int .i64 g4, .int .i64 g5] from rfl, ← e3, ← e4]
          match L, hl' with
          | [l0, l1, l2, l3, l4, l5, l6, l7, l8, l9, l10, l11, l12, l13, l14, l15, l16, l17, l18, l19, l20, l21, l22, l23, l24, l25, l26, l27, l28, l29, l30], _ =>
            have : l0 = .int .i64 m := by
              have : [l0] = [.int .i64 m] := e0
              injection this
            rw [this]
            rfl
        · match k, hk with
          | 0, _ => exact ⟨r0, s0, h0⟩
          | 1, _ => exact ⟨r1, s1, h1⟩
          | 2, _ => exact ⟨r2, s2, h2⟩
end
end Go.Proofs.Ytagclnmchkgpdaa
