/-
  Arguments that are lists of readings and of fields, opened: how they lie in memory.
-/
import Derived.Test.YtcockikekgmfkaaDoorOpG
import Derived.Test.YtcockikekgmfkaaDoorErD
import Derived.Test.YtcockikekgmfkaaDoorFiQ
import Derived.Test.YtcockikekgmfkaaDoorStP
namespace Go.Proofs.YtcockikekgmfkaaDoor
open Go.Joins Go.ChangeShapes Go.WideShapes Go.RowKit Go.Deep

def cellsF (l : List Fld) : List Value := l.flatMap fun p => [.int .i64 p.1, .int .i64 p.2.1, .string p.2.2]
theorem cellsF_cons (p : Fld) (l : List Fld) : cellsF (p :: l) = .int .i64 p.1 :: .int .i64 p.2.1 :: .string p.2.2 :: cellsF l := by simp [cellsF]
theorem length_cellsF : ∀ l : List Fld, (cellsF l).length = l.length * 3
  | [] => rfl
  | p :: l => by rw [cellsF_cons, List.length_cons, List.length_cons, List.length_cons, length_cellsF l, List.length_cons]; omega
theorem cellsF_at : ∀ (l : List Fld) (i : Nat) (p : Fld), l[i]? = some p → (cellsF l)[i * 3]? = some (.int .i64 p.1) ∧ (cellsF l)[i * 3 + 1]? = some (.int .i64 p.2.1) ∧ (cellsF l)[i * 3 + 2]? = some (.string p.2.2)
  | [], i, p, h => by simp at h
  | q :: l, 0, p, h => by
    simp at h
    subst h
    rw [cellsF_cons]
    exact ⟨rfl, rfl, rfl⟩
  | q :: l, i + 1, p, h => by
    have := cellsF_at l i p (by simpa using h)
    rw [cellsF_cons, show (i + 1) * 3 = i * 3 + 1 + 1 + 1 by omega]
    simpa using this
theorem Reads.plainF {w : World} {B n : Nat} {A : Option Addr} {l : List Fld} (h : Reads w B 3 A n (cellsF l)) (hn : 0 < n) :
    ∃ b off, A = some ⟨b, off, none⟩ ∧ b < B ∧ ∀ i p, l[i]? = some p → w.cell? ⟨b, off + i * 3, none⟩ = some (.int .i64 p.1) ∧ w.cell? ⟨b, off + i * 3 + 1, none⟩ = some (.int .i64 p.2.1) ∧ w.cell? ⟨b, off + i * 3 + 2, none⟩ = some (.string p.2.2) := by
  obtain ⟨ad, rfl, hb, hc⟩ := h.2 hn
  obtain ⟨b, off, spot⟩ := ad
  have hl : 0 < (cellsF l).length := by have := h.1; omega
  have h0 := hc 0 _ (List.getElem?_eq_getElem hl)
  have hs : spot = none := by simpa [Addr.add] using World.cell?_spot h0
  subst hs
  refine ⟨b, off, rfl, hb, fun i p hp => ?_⟩
  obtain ⟨h1, h2, h3⟩ := cellsF_at l i p hp
  have k1 := hc _ _ h1
  have k2 := hc _ _ h2
  have k3 := hc _ _ h3
  rw [add_none] at k1 k2 k3
  exact ⟨k1, by rw [Nat.add_assoc]; exact k2, by rw [Nat.add_assoc]; exact k3⟩

section
variable {H : Type} {enc : TypeId × Value → H} {W : World}
theorem cellsP_get : ∀ (l : List Pd) (j : Nat) (u : Value), (cellsP l)[j]? = some u → ∃ i k p, j = i * 3 + k ∧ k < 3 ∧ l[i]? = some p ∧ u = (if k = 0 then .int .i64 p.1 else if k = 1 then .int .i64 p.2.1 else .int .i64 p.2.2) := by
  intro l j u hu
  have hj : j < l.length * 3 := by
    have := (List.getElem?_eq_some_iff.1 hu).1
    rwa [length_cellsP] at this
  have hi : j / 3 < l.length := by omega
  obtain ⟨p, hp⟩ : ∃ p, l[j / 3]? = some p := ⟨_, List.getElem?_eq_getElem hi⟩
  obtain ⟨h0, h1, h2⟩ := cellsP_at l (j / 3) p hp
  refine ⟨j / 3, j % 3, p, by omega, by omega, hp, ?_⟩
  have hk : j % 3 = 0 ∨ j % 3 = 1 ∨ j % 3 = 2 := by omega
  rcases hk with hk | hk | hk
  · rw [show j = j / 3 * 3 by omega, h0] at hu
    rw [if_pos hk]
    exact (Option.some.inj hu).symm
  · rw [show j = j / 3 * 3 + 1 by omega, h1] at hu
    rw [if_neg (by omega), if_pos hk]
    exact (Option.some.inj hu).symm
  · rw [show j = j / 3 * 3 + 2 by omega, h2] at hu
    rw [if_neg (by omega), if_neg (by omega)]
    exact (Option.some.inj hu).symm
theorem field_takes {fuel : Nat} {v : Value} {x : DataW H × List MemPlace} (h : DataW.trod enc Tryd.prog W 0 (fun _ => true) true fuel 22 [v] = some x) :
    ∃ (A : Option Addr) (c : Nat) (l : List Pd), v = .slice A l.length c ∧ l.length ≤ c ∧ c ≤ maxLen ∧ Reads W W.heap.size 3 A l.length (cellsP l) := by
  rcases open_slice_fields Tryd.underlying22 Tryd.underlying29 (by kernel_rfl) (by kernel_rfl) h with ⟨hcs, _⟩ | ⟨a, len, cap, m, D, Pl, hcs, _, hl, hm, hmm, hx, hi⟩
  · simp at hcs
    subst hcs
    exact ⟨none, 0, [], rfl, Nat.le_refl _, by unfold maxLen; omega, Reads.none_⟩
  · simp at hcs
    subst hcs
    simp only [if_true] at hmm
    subst hmm
    have hp : ∀ i, ∃ p : Pd, i < len → W.cell? (a.add (i * 3 + 0)) = some (.int .i64 p.1) ∧ W.cell? (a.add (i * 3 + 1)) = some (.int .i64 p.2.1) ∧ W.cell? (a.add (i * 3 + 2)) = some (.int .i64 p.2.2) := by
      intro i
      by_cases hlt : i < len
      · obtain ⟨ys, n, _, _, _, hf⟩ := hi i (by omega)
        obtain ⟨v0, y0, hc0, _, t0⟩ := hf 0 _ rfl
        obtain ⟨v1, y1, hc1, _, t1⟩ := hf 1 _ rfl
        obtain ⟨v2, y2, hc2, _, t2⟩ := hf 2 _ rfl
        obtain ⟨z0, e0, _, _⟩ := DataW.trod_int Tryd.underlying3 t0
        obtain ⟨z1, e1, _, _⟩ := DataW.trod_int Tryd.underlying3 t1
        obtain ⟨z2, e2, _, _⟩ := DataW.trod_int Tryd.underlying3 t2
        simp at e0 e1 e2
        subst e0; subst e1; subst e2
        exact ⟨(z0, z1, z2), fun _ => ⟨hc0, hc1, hc2⟩⟩
      · exact ⟨(0, 0, 0), fun h => absurd h hlt⟩
    refine ⟨some a, m, (List.range len).map fun i => Classical.choose (hp i), by simp, by simpa using hl, by omega, by rw [length_cellsP], fun hn => ⟨a, rfl, ?_, fun j u hu => ?_⟩⟩
    · simp at hn
      exact cell_block (Classical.choose_spec (hp 0) hn).1
    · obtain ⟨i, k, p, rfl, hk, hpi, rfl⟩ := cellsP_get _ j u hu
      rw [List.getElem?_map, Option.map_eq_some_iff] at hpi
      obtain ⟨i', hi', rfl⟩ := hpi
      have hlt : i < len := by
        have := (List.getElem?_eq_some_iff.1 hi').1
        simpa using this
      rw [List.getElem?_range hlt] at hi'
      obtain rfl : i = i' := by simpa using hi'
      obtain ⟨q0, q1, q2⟩ := Classical.choose_spec (hp i) hlt
      have hk3 : k = 0 ∨ k = 1 ∨ k = 2 := by omega
      rcases hk3 with rfl | rfl | rfl
      · exact q0
      · exact q1
      · exact q2

theorem cellsF_get : ∀ (l : List Fld) (j : Nat) (u : Value), (cellsF l)[j]? = some u → ∃ i k p, j = i * 3 + k ∧ k < 3 ∧ l[i]? = some p ∧ u = (if k = 0 then .int .i64 p.1 else if k = 1 then .int .i64 p.2.1 else .string p.2.2) := by
  intro l j u hu
  have hj : j < l.length * 3 := by
    have := (List.getElem?_eq_some_iff.1 hu).1
    rwa [length_cellsF] at this
  have hi : j / 3 < l.length := by omega
  obtain ⟨p, hp⟩ : ∃ p, l[j / 3]? = some p := ⟨_, List.getElem?_eq_getElem hi⟩
  obtain ⟨h0, h1, h2⟩ := cellsF_at l (j / 3) p hp
  refine ⟨j / 3, j % 3, p, by omega, by omega, hp, ?_⟩
  have hk : j % 3 = 0 ∨ j % 3 = 1 ∨ j % 3 = 2 := by omega
  rcases hk with hk | hk | hk
  · rw [show j = j / 3 * 3 by omega, h0] at hu
    rw [if_pos hk]
    exact (Option.some.inj hu).symm
  · rw [show j = j / 3 * 3 + 1 by omega, h1] at hu
    rw [if_neg (by omega), if_pos hk]
    exact (Option.some.inj hu).symm
  · rw [show j = j / 3 * 3 + 2 by omega, h2] at hu
    rw [if_neg (by omega), if_neg (by omega)]
    exact (Option.some.inj hu).symm
theorem field_flds {fuel : Nat} {v : Value} {x : DataW H × List MemPlace} (h : DataW.trod enc Tryd.prog W 0 (fun _ => true) true fuel 57 [v] = some x) :
    ∃ (A : Option Addr) (c : Nat) (l : List Fld), v = .slice A l.length c ∧ l.length ≤ c ∧ c ≤ maxLen ∧ Reads W W.heap.size 3 A l.length (cellsF l) ∧ ∀ r ∈ l, r.2.2.size ≤ maxLen := by
  rcases open_slice_fields Tryd.underlying57 Tryd.underlying59 (by kernel_rfl) (by kernel_rfl) h with ⟨hcs, _⟩ | ⟨a, len, cap, m, D, Pl, hcs, _, hl, hm, hmm, hx, hi⟩
  · simp at hcs
    subst hcs
    exact ⟨none, 0, [], rfl, Nat.le_refl _, by unfold maxLen; omega, Reads.none_, by simp⟩
  · simp at hcs
    subst hcs
    simp only [if_true] at hmm
    subst hmm
    have hp : ∀ i, ∃ p : Fld, p.2.2.size ≤ maxLen ∧ (i < len → W.cell? (a.add (i * 3 + 0)) = some (.int .i64 p.1) ∧ W.cell? (a.add (i * 3 + 1)) = some (.int .i64 p.2.1) ∧ W.cell? (a.add (i * 3 + 2)) = some (.string p.2.2)) := by
      intro i
      by_cases hlt : i < len
      · obtain ⟨ys, n, _, _, _, hf⟩ := hi i (by omega)
        obtain ⟨v0, y0, hc0, _, t0⟩ := hf 0 _ rfl
        obtain ⟨v1, y1, hc1, _, t1⟩ := hf 1 _ rfl
        obtain ⟨v2, y2, hc2, _, t2⟩ := hf 2 _ rfl
        obtain ⟨z0, e0, _, _⟩ := DataW.trod_int Tryd.underlying3 t0
        obtain ⟨z1, e1, _, _⟩ := DataW.trod_int Tryd.underlying3 t1
        obtain ⟨z2, e2, _, m2⟩ := DataW.trod_string Tryd.underlying9 t2
        simp at e0 e1 e2
        subst e0; subst e1; subst e2
        exact ⟨(z0, z1, z2), m2, fun _ => ⟨hc0, hc1, hc2⟩⟩
      · exact ⟨(0, 0, ByteArray.empty), Nat.zero_le _, fun h => absurd h hlt⟩
    refine ⟨some a, m, (List.range len).map fun i => Classical.choose (hp i), by simp, by simpa using hl, by omega, ⟨by rw [length_cellsF], fun hn => ⟨a, rfl, ?_, fun j u hu => ?_⟩⟩, fun r hr => ?_⟩
    · simp at hn
      exact cell_block ((Classical.choose_spec (hp 0)).2 hn).1
    · obtain ⟨i, k, p, rfl, hk, hpi, rfl⟩ := cellsF_get _ j u hu
      rw [List.getElem?_map, Option.map_eq_some_iff] at hpi
      obtain ⟨i', hi', rfl⟩ := hpi
      have hlt : i < len := by
        have := (List.getElem?_eq_some_iff.1 hi').1
        simpa using this
      rw [List.getElem?_range hlt] at hi'
      obtain rfl : i = i' := by simpa using hi'
      obtain ⟨q0, q1, q2⟩ := (Classical.choose_spec (hp i)).2 hlt
      have hk3 : k = 0 ∨ k = 1 ∨ k = 2 := by omega
      rcases hk3 with rfl | rfl | rfl
      · exact q0
      · exact q1
      · exact q2
    · obtain ⟨i, _, rfl⟩ := List.mem_map.1 hr
      exact (Classical.choose_spec (hp i)).1

set_option maxRecDepth 100000 in
theorem open_takes {r : Reach} {base : Nat} {v : Value} {d : DataW H} {p : List MemPlace} (hv : Value.okWide Tryd.prog W r base 22 v) (h : DataW.Trod enc Tryd.prog W 0 (fun _ => true) true 22 v d p) :
    ∃ (A : Option Addr) (c : Nat) (l : List Pd), v = .slice A l.length c ∧ l.length ≤ c ∧ c ≤ maxLen ∧ Reads W W.heap.size 3 A l.length (cellsP l) := by
  obtain ⟨a0, len, cap, rfl⟩ := okWide_slice Tryd.underlying22 hv
  obtain ⟨fuel, hf⟩ := h
  exact field_takes hf
set_option maxRecDepth 100000 in
theorem open_flds {r : Reach} {base : Nat} {v : Value} {d : DataW H} {p : List MemPlace} (hv : Value.okWide Tryd.prog W r base 57 v) (h : DataW.Trod enc Tryd.prog W 0 (fun _ => true) true 57 v d p) :
    ∃ (A : Option Addr) (c : Nat) (l : List Fld), v = .slice A l.length c ∧ l.length ≤ c ∧ c ≤ maxLen ∧ Reads W W.heap.size 3 A l.length (cellsF l) ∧ ∀ r ∈ l, r.2.2.size ≤ maxLen := by
  obtain ⟨a0, len, cap, rfl⟩ := okWide_slice Tryd.underlying57 hv
  obtain ⟨fuel, hf⟩ := h
  exact field_flds hf
end
end Go.Proofs.YtcockikekgmfkaaDoor
