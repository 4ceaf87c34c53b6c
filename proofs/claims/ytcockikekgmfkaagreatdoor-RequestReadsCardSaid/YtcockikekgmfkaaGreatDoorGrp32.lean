/-
  Arguments that are requests, and slices of requests, opened.
  The statement RecordTells: its walk.
  Arguments that are batches, opened.
-/
import Derived.Test.YtcockikekgmfkaaGreatDoorGrp19
import Derived.Test.YtcockikekgmfkaaGreatDoorGrp31
import Derived.Test.YtcockikekgmfkaaGreatDoorGrp04
namespace Go.Proofs.YtcockikekgmfkaaGreatDoor
open Go.RowKit

theorem keepB {w w' : World} {g o : Nat} {v : Value} (h : w.cell? ⟨g, o, none⟩ = some v) (hb : Below w.heap.size w w') : w'.cell? ⟨g, o, none⟩ = some v := (hb.cell (p := ⟨g, o, none⟩) (cell_lt h)).trans h

/-- What a batch's bytes are, or that it has none. -/
def bytesBt (b : Bat) : ByteArray × Int := if mayBt b = true then (bs (encBt b), 0) else (ByteArray.empty, 2)
theorem RcBytes_any (b : Bat) (A1 : Option Addr) (c1 : Nat) (w : World) (hr : Reads w w.heap.size 2 A1 b.rs.length (cellsR b.rs)) (hg : HasET w) :
    Calls Tryz.prog 77 #[(.agg #[.int .i64 b.pid, .int .i64 b.ep, .int .i64 b.seq, .bool b.txn, .slice A1 b.rs.length c1])] w fun e w' => e = .returned (.tuple #[.string (bytesBt b).1, .int .i64 (bytesBt b).2]) ∧ Below w.heap.size w w' := by
  unfold bytesBt
  cases hm : mayBt b
  · exact RcBytes_no b A1 c1 w hr hg hm
  · exact RcBytes_ok b A1 c1 w hr hm
theorem rRcBytes_any (b : Bat) (A1 : Option Addr) (c1 : Nat) (w : World) (hr : Reads w w.heap.size 2 A1 b.rs.length (cellsR b.rs)) :
    Calls Tryz.prog 20 #[(.agg #[.int .i64 b.pid, .int .i64 b.ep, .int .i64 b.seq, .bool b.txn, .slice A1 b.rs.length c1])] w fun e w' => e = .returned (.tuple #[.string (bytesBt b).1, .int .i64 (bytesBt b).2]) ∧ Below w.heap.size w w' := by
  unfold bytesBt
  cases hm : mayBt b
  · exact rRcBytes_no b A1 c1 w hr hm
  · exact rRcBytes_ok b A1 c1 w hr hm

/-- A batch's records in memory, however many. -/
def BtRaw (w : World) (b : Bat) (A : Option Addr) : Prop :=
  Reads w w.heap.size 2 A b.rs.length (cellsR b.rs) ∧ b.rs.length ≤ 9223372036854775807 ∧ ∀ r ∈ b.rs, r.1.size ≤ 9223372036854775807 ∧ r.2.size ≤ 9223372036854775807

end Go.Proofs.YtcockikekgmfkaaGreatDoor
namespace Go.Proofs.YtcockikekgmfkaaGreatDoor
open Go.Joins Go.ChangeShapes Go.WideShapes Go.RowKit Go.Deep

theorem cellsR_get : ∀ (l : List Rec) (j : Nat) (u : Value), (cellsR l)[j]? = some u → ∃ i k p, j = i * 2 + k ∧ k < 2 ∧ l[i]? = some p ∧ u = (if k = 0 then .string p.1 else .string p.2) := by
  intro l j u hu
  have hj : j < l.length * 2 := by
    have := (List.getElem?_eq_some_iff.1 hu).1
    rwa [length_cellsR] at this
  have hi : j / 2 < l.length := by omega
  obtain ⟨p, hp⟩ : ∃ p, l[j / 2]? = some p := ⟨_, List.getElem?_eq_getElem hi⟩
  obtain ⟨h0, h1⟩ := cellsR_at l (j / 2) p hp
  refine ⟨j / 2, j % 2, p, by omega, by omega, hp, ?_⟩
  have hk : j % 2 = 0 ∨ j % 2 = 1 := by omega
  rcases hk with hk | hk
  · rw [show j = j / 2 * 2 by omega, h0] at hu
    rw [if_pos hk]
    exact (Option.some.inj hu).symm
  · rw [show j = j / 2 * 2 + 1 by omega, h1] at hu
    rw [if_neg (by omega)]
    exact (Option.some.inj hu).symm

section
variable {H : Type} {enc : TypeId × Value → H} {W : World}
theorem field_recs {fuel : Nat} {v : Value} {x : DataW H × List MemPlace} (h : DataW.trod enc Tryz.prog W 0 (fun _ => true) true fuel 23 [v] = some x) :
    ∃ (A : Option Addr) (c : Nat) (l : List Rec), v = .slice A l.length c ∧ l.length ≤ c ∧ c ≤ maxLen ∧ Reads W W.heap.size 2 A l.length (cellsR l) ∧ ∀ r ∈ l, r.1.size ≤ maxLen ∧ r.2.size ≤ maxLen := by
  rcases open_slice_fields Tryz.underlying23 Tryz.underlying41 (by kernel_rfl) (by kernel_rfl) h with ⟨hcs, _⟩ | ⟨a, len, cap, m, D, Pl, hcs, _, hl, hm, hmm, hx, hi⟩
  · simp at hcs
    subst hcs
    exact ⟨none, 0, [], rfl, Nat.le_refl _, Nat.zero_le _, Reads.none_, by simp⟩
  · simp at hcs
    subst hcs
    simp only [if_true] at hmm
    subst hmm
    have hp : ∀ i, ∃ p : Rec, (p.1.size ≤ maxLen ∧ p.2.size ≤ maxLen) ∧ (i < len → W.cell? (a.add (i * 2 + 0)) = some (.string p.1) ∧ W.cell? (a.add (i * 2 + 1)) = some (.string p.2)) := by
      intro i
      by_cases hlt : i < len
      · obtain ⟨ys, n, _, _, _, hf⟩ := hi i (by omega)
        obtain ⟨v0, y0, hc0, _, t0⟩ := hf 0 _ rfl
        obtain ⟨v1, y1, hc1, _, t1⟩ := hf 1 _ rfl
        obtain ⟨z0, e0, _, m0⟩ := DataW.trod_string Tryz.underlying9 t0
        obtain ⟨z1, e1, _, m1⟩ := DataW.trod_string Tryz.underlying9 t1
        simp at e0 e1
        subst e0; subst e1
        exact ⟨(z0, z1), ⟨m0, m1⟩, fun _ => ⟨hc0, hc1⟩⟩
      · exact ⟨(ByteArray.empty, ByteArray.empty), ⟨Nat.zero_le _, Nat.zero_le _⟩, fun h => absurd h hlt⟩
    refine ⟨some a, m, (List.range len).map fun i => Classical.choose (hp i), by simp, by simpa using hl, hm, ⟨by rw [length_cellsR], fun hn => ⟨a, rfl, ?_, fun j u hu => ?_⟩⟩, fun r hr => ?_⟩
    · simp at hn
      exact cell_block ((Classical.choose_spec (hp 0)).2 hn).1
    · obtain ⟨i, k, p, rfl, hk, hpi, rfl⟩ := cellsR_get _ j u hu
      rw [List.getElem?_map, Option.map_eq_some_iff] at hpi
      obtain ⟨i', hi', rfl⟩ := hpi
      have hlt : i < len := by
        have := (List.getElem?_eq_some_iff.1 hi').1
        simpa using this
      rw [List.getElem?_range hlt] at hi'
      obtain rfl : i = i' := by simpa using hi'
      obtain ⟨q0, q1⟩ := (Classical.choose_spec (hp i)).2 hlt
      have hk3 : k = 0 ∨ k = 1 := by omega
      rcases hk3 with rfl | rfl
      · exact q0
      · exact q1
    · obtain ⟨i, _, rfl⟩ := List.mem_map.1 hr
      exact (Classical.choose_spec (hp i)).1

set_option maxRecDepth 100000 in
theorem open_bt {r : Reach} {base : Nat} {v : Value} {d : DataW H} {p : List MemPlace} (hv : Value.okWide Tryz.prog W r base 25 v) (h : DataW.Trod enc Tryz.prog W 0 (fun _ => true) true 25 v d p) :
    ∃ (b : Bat) (A1 : Option Addr) (c1 : Nat), v = (.agg #[.int .i64 b.pid, .int .i64 b.ep, .int .i64 b.seq, .bool b.txn, .slice A1 b.rs.length c1]) ∧ BtRaw W b A1 ∧ b.rs.length ≤ c1 ∧ (-9223372036854775808 ≤ b.pid ∧ b.pid ≤ 9223372036854775807) ∧ (-9223372036854775808 ≤ b.ep ∧ b.ep ≤ 9223372036854775807) ∧ (-9223372036854775808 ≤ b.seq ∧ b.seq ≤ 9223372036854775807) := by
  obtain ⟨v0, v1, v2, v3, v4, y0, y1, y2, y3, y4, n, rfl, _, _, t0, t1, t2, t3, t4⟩ := open_agg5 Tryz.underlying25 (by kernel_rfl) (by kernel_rfl) hv h
  obtain ⟨z0, e0, _, w0⟩ := DataW.trod_int Tryz.underlying3 t0
  obtain ⟨z1, e1, _, w1⟩ := DataW.trod_int Tryz.underlying3 t1
  obtain ⟨z2, e2, _, w2⟩ := DataW.trod_int Tryz.underlying3 t2
  obtain ⟨z3, e3, _⟩ := DataW.trod_bool Tryz.underlying4 t3
  obtain ⟨A1, c1, l1, rfl, k1, hm1, r1, s1⟩ := field_recs t4
  simp at e0 e1 e2 e3
  subst e0; subst e1; subst e2; subst e3
  simp only [Lit.wf, Bool.and_eq_true, decide_eq_true_eq] at w0 w1 w2
  unfold maxLen at hm1 s1
  exact ⟨⟨z0, z1, z2, z3, l1⟩, A1, c1, rfl, ⟨r1, by show l1.length ≤ _; omega, s1⟩, k1, w0, w1, w2⟩
end
end Go.Proofs.YtcockikekgmfkaaGreatDoor
namespace Go.Proofs.YtcockikekgmfkaaGreatDoor
open Go.Joins Go.ChangeShapes Go.WideShapes Go.RowKit Go.Deep

def i64In (x : Int) : Prop := -9223372036854775808 ≤ x ∧ x ≤ 9223372036854775807
/-- What is known of a request that was handed in. -/
def RqRaw (w : World) (q : Rq) (A : Option Addr) : Prop :=
  BtRaw w q.b A ∧ (-128 ≤ q.kd ∧ q.kd ≤ 127) ∧ ∀ v ∈ [q.tid, q.tm, q.pid, q.ep, q.part, q.grp, q.off, q.most, q.b.pid, q.b.ep, q.b.seq], i64In v

section
variable {H : Type} {enc : TypeId × Value → H} {W : World}
set_option maxRecDepth 100000 in
theorem trod_bt {fuel : Nat} {cs : List Value} {x : DataW H × List MemPlace} (h : DataW.trod enc Tryz.prog W 0 (fun _ => true) true fuel 25 cs = some x) :
    ∃ (b : Bat) (A1 : Option Addr) (c1 : Nat), cs = [.int .i64 b.pid, .int .i64 b.ep, .int .i64 b.seq, .bool b.txn, .slice A1 b.rs.length c1] ∧ BtRaw W b A1 ∧ i64In b.pid ∧ i64In b.ep ∧ i64In b.seq := by
  obtain ⟨xs, n, _, _, hl, hlen, hg⟩ := DataW.trod_struct Tryz.underlying25 h
  have hC : Tryz.prog.cellsOf 25 = 5 := by kernel_rfl
  have ki : Tryz.prog.cellsOf 3 = 1 := by kernel_rfl
  have kb : Tryz.prog.cellsOf 4 = 1 := by kernel_rfl
  have kr : Tryz.prog.cellsOf 23 = 1 := by kernel_rfl
  rw [hC] at hl
  match cs, hl with
  | [c0, c1, c2, c3, c4], _ =>
    match xs, hlen with
    | [y0, y1, y2, y3, y4], _ =>
      have t0 := hg 0 _ rfl
      have t1 := hg 1 _ rfl
      have t2 := hg 2 _ rfl
      have t3 := hg 3 _ rfl
      have t4 := hg 4 _ rfl
      simp [ki] at t0 t1 t2
      simp [kb] at t3
      simp [kr] at t4
      obtain ⟨z0, e0, _, w0⟩ := DataW.trod_int Tryz.underlying3 t0
      obtain ⟨z1, e1, _, w1⟩ := DataW.trod_int Tryz.underlying3 t1
      obtain ⟨z2, e2, _, w2⟩ := DataW.trod_int Tryz.underlying3 t2
      obtain ⟨z3, e3, _⟩ := DataW.trod_bool Tryz.underlying4 t3
      obtain ⟨A1, cc, l1, rfl, k1, hm1, r1, s1⟩ := field_recs t4
      simp at e0 e1 e2 e3
      subst e0; subst e1; subst e2; subst e3
      simp only [Lit.wf, Bool.and_eq_true, decide_eq_true_eq] at w0 w1 w2
      unfold maxLen at hm1 s1
      exact ⟨⟨z0, z1, z2, z3, l1⟩, A1, cc, rfl, ⟨r1, by show l1.length ≤ _; omega, s1⟩, w0, w1, w2⟩
set_option maxRecDepth 100000 in
theorem trod_rq {fuel : Nat} {cs : List Value} {x : DataW H × List MemPlace} (h : DataW.trod enc Tryz.prog W 0 (fun _ => true) true fuel 27 cs = some x) :
    ∃ (q : Rq) (A1 : Option Addr) (c1 : Nat), cs = #[.int .i8 q.kd, .int .i64 q.tid, .int .i64 q.tm, .int .i64 q.pid, .int .i64 q.ep, .int .i64 q.part, .int .i64 q.grp, .int .i64 q.off, .int .i64 q.most, .bool q.yes, .int .i64 q.b.pid, .int .i64 q.b.ep, .int .i64 q.b.seq, .bool q.b.txn, .slice A1 q.b.rs.length c1].toList ∧ RqRaw W q A1 := by
  obtain ⟨xs, n, _, _, hl, hlen, hg⟩ := DataW.trod_struct Tryz.underlying27 h
  have hC : Tryz.prog.cellsOf 27 = 15 := by kernel_rfl
  have k8 : Tryz.prog.cellsOf 22 = 1 := by kernel_rfl
  have ki : Tryz.prog.cellsOf 3 = 1 := by kernel_rfl
  have kb : Tryz.prog.cellsOf 4 = 1 := by kernel_rfl
  have kB : Tryz.prog.cellsOf 25 = 5 := by kernel_rfl
  rw [hC] at hl
  match cs, hl with
  | [c0, c1, c2, c3, c4, c5, c6, c7, c8, c9, c10, c11, c12, c13, c14], _ =>
    match xs, hlen with
    | [y0, y1, y2, y3, y4, y5, y6, y7, y8, y9, y10], _ =>
      have t0 := hg 0 _ rfl
      have t1 := hg 1 _ rfl
      have t2 := hg 2 _ rfl
      have t3 := hg 3 _ rfl
      have t4 := hg 4 _ rfl
      have t5 := hg 5 _ rfl
      have t6 := hg 6 _ rfl
      have t7 := hg 7 _ rfl
      have t8 := hg 8 _ rfl
      have t9 := hg 9 _ rfl
      have t10 := hg 10 _ rfl
      clear hg
      simp [k8] at t0
      simp [ki] at t1 t2 t3 t4 t5 t6 t7 t8
      simp [kb] at t9
      simp [kB] at t10
      obtain ⟨z0, e0, _, w0⟩ := DataW.trod_int Tryz.underlying22 t0
      obtain ⟨z1, e1, _, w1⟩ := DataW.trod_int Tryz.underlying3 t1
      obtain ⟨z2, e2, _, w2⟩ := DataW.trod_int Tryz.underlying3 t2
      obtain ⟨z3, e3, _, w3⟩ := DataW.trod_int Tryz.underlying3 t3
      obtain ⟨z4, e4, _, w4⟩ := DataW.trod_int Tryz.underlying3 t4
      obtain ⟨z5, e5, _, w5⟩ := DataW.trod_int Tryz.underlying3 t5
      obtain ⟨z6, e6, _, w6⟩ := DataW.trod_int Tryz.underlying3 t6
      obtain ⟨z7, e7, _, w7⟩ := DataW.trod_int Tryz.underlying3 t7
      obtain ⟨z8, e8, _, w8⟩ := DataW.trod_int Tryz.underlying3 t8
      obtain ⟨z9, e9, _⟩ := DataW.trod_bool Tryz.underlying4 t9
      obtain ⟨b, A1, cc, eb, hb, u1, u2, u3⟩ := trod_bt t10
      simp at e0 e1 e2 e3 e4 e5 e6 e7 e8 e9 eb
      obtain ⟨rfl, rfl, rfl, rfl, rfl⟩ := eb
      subst e0; subst e1; subst e2; subst e3; subst e4; subst e5; subst e6; subst e7; subst e8; subst e9
      simp only [Lit.wf, Bool.and_eq_true, decide_eq_true_eq] at w0 w1 w2 w3 w4 w5 w6 w7 w8
      refine ⟨⟨z0, z1, z2, z3, z4, z5, z6, z7, z8, z9, b⟩, A1, cc, rfl, hb, w0, ?_⟩
      intro v hv
      simp only [List.mem_cons, List.not_mem_nil, or_false] at hv
      rcases hv with rfl | rfl | rfl | rfl | rfl | rfl | rfl | rfl | rfl | rfl | rfl
      all_goals assumption
set_option maxRecDepth 100000 in
theorem open_rq {r : Reach} {base : Nat} {v : Value} {d : DataW H} {p : List MemPlace} (hv : Value.okWide Tryz.prog W r base 27 v) (h : DataW.Trod enc Tryz.prog W 0 (fun _ => true) true 27 v d p) :
    ∃ (q : Rq) (A1 : Option Addr) (c1 : Nat), v = (.agg #[.int .i8 q.kd, .int .i64 q.tid, .int .i64 q.tm, .int .i64 q.pid, .int .i64 q.ep, .int .i64 q.part, .int .i64 q.grp, .int .i64 q.off, .int .i64 q.most, .bool q.yes, .int .i64 q.b.pid, .int .i64 q.b.ep, .int .i64 q.b.seq, .bool q.b.txn, .slice A1 q.b.rs.length c1]) ∧ RqRaw W q A1 := by
  obtain ⟨cs, rfl, _⟩ := okWide_struct Tryz.underlying27 hv
  obtain ⟨fuel, hf⟩ := h
  obtain ⟨q, A1, c1, e, hq⟩ := trod_rq hf
  have e2 : cs.toList = #[.int .i8 q.kd, .int .i64 q.tid, .int .i64 q.tm, .int .i64 q.pid, .int .i64 q.ep, .int .i64 q.part, .int .i64 q.grp, .int .i64 q.off, .int .i64 q.most, .bool q.yes, .int .i64 q.b.pid, .int .i64 q.b.ep, .int .i64 q.b.seq, .bool q.b.txn, .slice A1 q.b.rs.length c1].toList := e
  exact ⟨q, A1, c1, congrArg Value.agg (Array.toList_inj.1 e2), hq⟩
end
end Go.Proofs.YtcockikekgmfkaaGreatDoor
