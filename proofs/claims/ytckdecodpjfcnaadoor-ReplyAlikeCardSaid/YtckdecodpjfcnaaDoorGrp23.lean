/-
  Arguments that are replies, opened.
-/
import Derived.Test.YtckdecodpjfcnaaDoorGrp22
import Derived.Test.YtckdecodpjfcnaaDoorGrp21
set_option linter.unusedVariables false
set_option linter.unusedSimpArgs false
namespace Go.Proofs.YtckdecodpjfcnaaDoor
open Go.Joins Go.ChangeShapes Go.WideShapes Go.RowKit Go.Deep

theorem cellsW_get : ∀ (l : List Rw) (j : Nat) (u : Value), (cellsW l)[j]? = some u → ∃ i k p, j = i * 5 + k ∧ k < 5 ∧ l[i]? = some p ∧ u = (if k = 0 then .int .i64 p.1 else if k = 1 then .int .i64 p.2.1 else if k = 2 then .int .i64 p.2.2.1 else if k = 3 then .string p.2.2.2.1 else .string p.2.2.2.2) := by
  intro l j u hu
  have hj : j < l.length * 5 := by
    have := (List.getElem?_eq_some_iff.1 hu).1
    rwa [length_cellsW] at this
  have hi : j / 5 < l.length := by omega
  obtain ⟨p, hp⟩ : ∃ p, l[j / 5]? = some p := ⟨_, List.getElem?_eq_getElem hi⟩
  obtain ⟨h0, h1, h2, h3, h4⟩ := cellsW_at l (j / 5) p hp
  refine ⟨j / 5, j % 5, p, by omega, by omega, hp, ?_⟩
  have hk : j % 5 = 0 ∨ j % 5 = 1 ∨ j % 5 = 2 ∨ j % 5 = 3 ∨ j % 5 = 4 := by omega
  rcases hk with hk | hk | hk | hk | hk
  · rw [show j = j / 5 * 5 by omega, h0] at hu
    rw [if_pos hk]
    exact (Option.some.inj hu).symm
  · rw [show j = j / 5 * 5 + 1 by omega, h1] at hu
    rw [if_neg (by omega), if_pos hk]
    exact (Option.some.inj hu).symm
  · rw [show j = j / 5 * 5 + 2 by omega, h2] at hu
    rw [if_neg (by omega), if_neg (by omega), if_pos hk]
    exact (Option.some.inj hu).symm
  · rw [show j = j / 5 * 5 + 3 by omega, h3] at hu
    rw [if_neg (by omega), if_neg (by omega), if_neg (by omega), if_pos hk]
    exact (Option.some.inj hu).symm
  · rw [show j = j / 5 * 5 + 4 by omega, h4] at hu
    rw [if_neg (by omega), if_neg (by omega), if_neg (by omega), if_neg (by omega)]
    exact (Option.some.inj hu).symm

/-- What is known of a reply that was handed in. -/
def RpRaw (w : World) (q : Rp) (A : Option Addr) : Prop := Reads w w.heap.size 5 A q.rows.length (cellsW q.rows)

section
variable {H : Type} {enc : TypeId × Value → H} {W : World}
theorem field_rows {fuel : Nat} {v : Value} {x : DataW H × List MemPlace} (h : DataW.trod enc Tryd.prog W 0 (fun _ => true) true fuel 24 [v] = some x) :
    ∃ (A : Option Addr) (c : Nat) (l : List Rw), v = .slice A l.length c ∧ Reads W W.heap.size 5 A l.length (cellsW l) := by
  rcases open_slice_fields Tryd.underlying24 Tryd.underlying37 (by kernel_rfl) (by kernel_rfl) h with ⟨hcs, _⟩ | ⟨a, len, cap, m, D, Pl, hcs, _, hl, hm, hmm, hx, hi⟩
  · simp at hcs
    subst hcs
    exact ⟨none, 0, [], rfl, Reads.none_⟩
  · simp at hcs
    subst hcs
    simp only [if_true] at hmm
    subst hmm
    have hp : ∀ i, ∃ p : Rw, (i < len → W.cell? (a.add (i * 5 + 0)) = some (.int .i64 p.1) ∧ W.cell? (a.add (i * 5 + 1)) = some (.int .i64 p.2.1) ∧ W.cell? (a.add (i * 5 + 2)) = some (.int .i64 p.2.2.1) ∧ W.cell? (a.add (i * 5 + 3)) = some (.string p.2.2.2.1) ∧ W.cell? (a.add (i * 5 + 4)) = some (.string p.2.2.2.2)) := by
      intro i
      by_cases hlt : i < len
      · obtain ⟨ys, n, _, _, _, hf⟩ := hi i (by omega)
        obtain ⟨v0, y0, hc0, _, t0⟩ := hf 0 _ rfl
        obtain ⟨v1, y1, hc1, _, t1⟩ := hf 1 _ rfl
        obtain ⟨v2, y2, hc2, _, t2⟩ := hf 2 _ rfl
        obtain ⟨v3, y3, hc3, _, t3⟩ := hf 3 _ rfl
        obtain ⟨v4, y4, hc4, _, t4⟩ := hf 4 _ rfl
        obtain ⟨z0, e0, _, _⟩ := DataW.trod_int Tryd.underlying3 t0
        obtain ⟨z1, e1, _, _⟩ := DataW.trod_int Tryd.underlying3 t1
        obtain ⟨z2, e2, _, _⟩ := DataW.trod_int Tryd.underlying3 t2
        obtain ⟨z3, e3, _, _⟩ := DataW.trod_string Tryd.underlying9 t3
        obtain ⟨z4, e4, _, _⟩ := DataW.trod_string Tryd.underlying9 t4
        simp at e0 e1 e2 e3 e4
        subst e0; subst e1; subst e2; subst e3; subst e4
        exact ⟨(z0, z1, z2, z3, z4), fun _ => ⟨hc0, hc1, hc2, hc3, hc4⟩⟩
      · exact ⟨(0, 0, 0, ByteArray.empty, ByteArray.empty), fun h => absurd h hlt⟩
    refine ⟨some a, m, (List.range len).map fun i => Classical.choose (hp i), by simp, ⟨by rw [length_cellsW], fun hn => ⟨a, rfl, ?_, fun j u hu => ?_⟩⟩⟩
    · simp at hn
      exact cell_block ((Classical.choose_spec (hp 0)) hn).1
    · obtain ⟨i, k, p, rfl, hk, hpi, rfl⟩ := cellsW_get _ j u hu
      rw [List.getElem?_map, Option.map_eq_some_iff] at hpi
      obtain ⟨i', hi', rfl⟩ := hpi
      have hlt : i < len := by
        have := (List.getElem?_eq_some_iff.1 hi').1
        simpa using this
      rw [List.getElem?_range hlt] at hi'
      obtain rfl : i = i' := by simpa using hi'
      obtain ⟨q0, q1, q2, q3, q4⟩ := (Classical.choose_spec (hp i)) hlt
      have hk3 : k = 0 ∨ k = 1 ∨ k = 2 ∨ k = 3 ∨ k = 4 := by omega
      rcases hk3 with rfl | rfl | rfl | rfl | rfl
      · exact q0
      · exact q1
      · exact q2
      · exact q3
      · exact q4
set_option maxRecDepth 100000 in
theorem trod_rp {fuel : Nat} {cs : List Value} {x : DataW H × List MemPlace} (h : DataW.trod enc Tryd.prog W 0 (fun _ => true) true fuel 26 cs = some x) :
    ∃ (q : Rp) (A1 : Option Addr) (c1 : Nat), cs = #[.int .i8 q.kd, .int .i64 q.er, .int .i64 q.pid, .int .i64 q.ep, .int .i64 q.off, .slice A1 q.rows.length c1].toList ∧ RpRaw W q A1 := by
  obtain ⟨xs, n, _, _, hl, hlen, hg⟩ := DataW.trod_struct Tryd.underlying26 h
  have hC : Tryd.prog.cellsOf 26 = 6 := by kernel_rfl
  have k8 : Tryd.prog.cellsOf 22 = 1 := by kernel_rfl
  have ke : Tryd.prog.cellsOf 23 = 1 := by kernel_rfl
  have ki : Tryd.prog.cellsOf 3 = 1 := by kernel_rfl
  have kB : Tryd.prog.cellsOf 24 = 1 := by kernel_rfl
  rw [hC] at hl
  match cs, hl with
  | [c0, c1, c2, c3, c4, c5], _ =>
    match xs, hlen with
    | [y0, y1, y2, y3, y4, y5], _ =>
      have t0 := hg 0 _ rfl
      have t1 := hg 1 _ rfl
      have t2 := hg 2 _ rfl
      have t3 := hg 3 _ rfl
      have t4 := hg 4 _ rfl
      have t5 := hg 5 _ rfl
      clear hg
      simp [k8] at t0
      simp [ke] at t1
      simp [ki] at t2 t3 t4
      simp [kB] at t5
      obtain ⟨z0, e0, _, _⟩ := DataW.trod_int Tryd.underlying22 t0
      obtain ⟨z1, e1, _, _⟩ := DataW.trod_int Tryd.underlying23 t1
      obtain ⟨z2, e2, _, _⟩ := DataW.trod_int Tryd.underlying3 t2
      obtain ⟨z3, e3, _, _⟩ := DataW.trod_int Tryd.underlying3 t3
      obtain ⟨z4, e4, _, _⟩ := DataW.trod_int Tryd.underlying3 t4
      obtain ⟨A1, cc, l, rfl, hr⟩ := field_rows t5
      simp at e0 e1 e2 e3 e4
      subst e0; subst e1; subst e2; subst e3; subst e4
      exact ⟨⟨z0, z1, z2, z3, z4, l⟩, A1, cc, rfl, hr⟩
set_option maxRecDepth 100000 in
theorem open_rp {r : Reach} {base : Nat} {v : Value} {d : DataW H} {p : List MemPlace} (hv : Value.okWide Tryd.prog W r base 26 v) (h : DataW.Trod enc Tryd.prog W 0 (fun _ => true) true 26 v d p) :
    ∃ (q : Rp) (A1 : Option Addr) (c1 : Nat), v = (.agg #[.int .i8 q.kd, .int .i64 q.er, .int .i64 q.pid, .int .i64 q.ep, .int .i64 q.off, .slice A1 q.rows.length c1]) ∧ RpRaw W q A1 := by
  obtain ⟨cs, rfl, _⟩ := okWide_struct Tryd.underlying26 hv
  obtain ⟨fuel, hf⟩ := h
  obtain ⟨q, A1, c1, e, hq⟩ := trod_rp hf
  have e2 : cs.toList = #[.int .i8 q.kd, .int .i64 q.er, .int .i64 q.pid, .int .i64 q.ep, .int .i64 q.off, .slice A1 q.rows.length c1].toList := e
  exact ⟨q, A1, c1, congrArg Value.agg (Array.toList_inj.1 e2), hq⟩
end
end Go.Proofs.YtckdecodpjfcnaaDoor
