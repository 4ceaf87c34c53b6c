/-
  The card of RecordBack is proved: for every input the call returns true, and each argument reads as before. No condition but the row's own list, which the card ties to the program's text.
  The statement RecordTells: its walk.
  Arguments that are batches, opened.
  The statement RecordBack: its walk.
-/
import Derived.Test.YtcockikekgmfkaaDoorRcJ
import Derived.Test.YtcockikekgmfkaaDoorBq
import Derived.Test.YtcockikekgmfkaaDoorOpG
import Derived.Test.YtcockikekgmfkaaDoorRcU
import Derived.Deep.Cut
import Derived.Test.YtcockikekgmfkaaDoorErL
namespace Go.Proofs.YtcockikekgmfkaaDoor
open Go.RowKit

theorem keepB {w w' : World} {g o : Nat} {v : Value} (h : w.cell? ⟨g, o, none⟩ = some v) (hb : Below w.heap.size w w') : w'.cell? ⟨g, o, none⟩ = some v := (hb.cell (p := ⟨g, o, none⟩) (cell_lt h)).trans h

/-- What a batch's bytes are, or that it has none. -/
def bytesBt (b : Bat) : ByteArray × Int := if mayBt b = true then (bs (encBt b), 0) else (ByteArray.empty, 2)
theorem RcBytes_any (b : Bat) (A1 : Option Addr) (c1 : Nat) (w : World) (hr : Reads w w.heap.size 2 A1 b.rs.length (cellsR b.rs)) (hg : HasET w) :
    Calls Tryd.prog 28 #[(.agg #[.int .i64 b.pid, .int .i64 b.ep, .int .i64 b.seq, .bool b.txn, .slice A1 b.rs.length c1])] w fun e w' => e = .returned (.tuple #[.string (bytesBt b).1, .int .i64 (bytesBt b).2]) ∧ Below w.heap.size w w' := by
  unfold bytesBt
  cases hm : mayBt b
  · exact RcBytes_no b A1 c1 w hr hg hm
  · exact RcBytes_ok b A1 c1 w hr hm
theorem rRcBytes_any (b : Bat) (A1 : Option Addr) (c1 : Nat) (w : World) (hr : Reads w w.heap.size 2 A1 b.rs.length (cellsR b.rs)) :
    Calls Tryd.prog 32 #[(.agg #[.int .i64 b.pid, .int .i64 b.ep, .int .i64 b.seq, .bool b.txn, .slice A1 b.rs.length c1])] w fun e w' => e = .returned (.tuple #[.string (bytesBt b).1, .int .i64 (bytesBt b).2]) ∧ Below w.heap.size w w' := by
  unfold bytesBt
  cases hm : mayBt b
  · exact rRcBytes_no b A1 c1 w hr hm
  · exact rRcBytes_ok b A1 c1 w hr hm

theorem SameRows_same (A1 A2 : Option Addr) (l : List Rw) (c1 c2 B1 B2 : Nat) (w : World) (h1 : Reads w B1 5 A1 l.length (cellsW l)) (h2 : Reads w B2 5 A2 l.length (cellsW l)) (hl : l.length ≤ 1000000) :
    Calls Tryd.prog 36 #[.slice A1 l.length c1, .slice A2 l.length c2] w fun e w' => e = .returned (.bool true) ∧ Below w.heap.size w w' :=
  (SameRows_any A1 A2 l l c1 c2 B1 B2 w h1 h2 hl).mono fun _ _ ⟨he, q, hw⟩ => ⟨by rw [he, decide_eq_true rfl], by rw [hw]; exact below_drewN (Below.refl _ _) q⟩
/-- A batch's records in memory, however many. -/
def BtRaw (w : World) (b : Bat) (A : Option Addr) : Prop :=
  Reads w w.heap.size 2 A b.rs.length (cellsR b.rs) ∧ b.rs.length ≤ 9223372036854775807 ∧ ∀ r ∈ b.rs, r.1.size ≤ 9223372036854775807 ∧ r.2.size ≤ 9223372036854775807

set_option maxRecDepth 100000 in
set_option maxHeartbeats 2000000 in
theorem rtell_big (a b : Bat) (A1 A2 : Option Addr) (c1 c2 : Nat) (off : Int) (w : World) (h1 : BtRaw w a A1) (h2 : BtRaw w b A2) (hbig : greatBt a = true ∨ (greatBt a = false ∧ greatBt b = true)) :
    Calls Tryd.prog 5 #[(.agg #[.int .i64 a.pid, .int .i64 a.ep, .int .i64 a.seq, .bool a.txn, .slice A1 a.rs.length c1]), (.agg #[.int .i64 b.pid, .int .i64 b.ep, .int .i64 b.seq, .bool b.txn, .slice A2 b.rs.length c2]), .int .i64 off] w fun e w' => e = .returned (.bool true) ∧ Below w.heap.size w w' := by
  have HB := Lib.hid (bal (bal (Below.refl w.heap.size w) (.cells #[.int .i64 a.pid, .int .i64 a.ep, .int .i64 a.seq, .bool a.txn, .slice A1 a.rs.length c1] 40)) (.cells #[.int .i64 b.pid, .int .i64 b.ep, .int .i64 b.seq, .bool b.txn, .slice A2 b.rs.length c2] 40))
  have kk := Blk.new (w.alloc (.cells #[.int .i64 a.pid, .int .i64 a.ep, .int .i64 a.seq, .bool a.txn, .slice A1 a.rs.length c1] 40)) 40 #[.int .i64 b.pid, .int .i64 b.ep, .int .i64 b.seq, .bool b.txn, .slice A2 b.rs.length c2]
  rw [World.size_alloc] at kk
  have K2 := Lib.hid kk
  have G1 := Lib.hid (fun W (h : Below w.heap.size w W) => Great_any a A1 c1 W ((h1.1.below h).more h.size) h1.2.1 h1.2.2)
  have G2 := Lib.hid (fun W (h : Below w.heap.size w W) => Great_any b A2 c2 W ((h2.1.below h).more h.size) h2.2.1 h2.2.2)
  clear kk h1 h2
  rcases hbig with h1 | ⟨h1, h2⟩
  · rw [h1] at G1
    clear h1
    go_enter Tryd.func5, Tryd.ntmps5
    go_wp2_with fail
    refine (G1.out _ HB.out).mono ?_
    rintro e w1 ⟨rfl, b1⟩
    have bf := btrans HB.out b1
    go_wp2_with fail
    refine (wakes06 _).mono ?_
    rintro e w2 ⟨rfl, b2⟩
    go_wp2_with fail
    go_ret
    exact ⟨rfl, btrans bf b2⟩
  · rw [h1] at G1
    rw [h2] at G2
    clear h1 h2
    go_enter Tryd.func5, Tryd.ntmps5
    go_wp2_with fail
    refine (G1.out _ HB.out).mono ?_
    rintro e w1 ⟨rfl, b1⟩
    have bf := btrans HB.out b1
    have hz := b1.size
    simp only [World.size_alloc] at hz
    have k6 := K2.out.below b1 (by simp only [World.size_alloc]; omega)
    have y0 := k6.cell 0
    have y1 := k6.cell 1
    have y2 := k6.cell 2
    have y3 := k6.cell 3
    have y4 := k6.cell 4
    go_wp2_with fail
    refine (G2.out _ bf).mono ?_
    rintro e w2 ⟨rfl, b2⟩
    have bg := btrans bf b2
    go_wp2_with fail
    refine (wakes06 _).mono ?_
    rintro e w3 ⟨rfl, b3⟩
    go_wp2_with fail
    go_ret
    exact ⟨rfl, btrans bg b3⟩

set_option maxRecDepth 100000 in
set_option maxHeartbeats 4000000 in
theorem rtell_ok (a b : Bat) (A1 A2 : Option Addr) (c1 c2 : Nat) (off : Int) (w : World) (hg : HasET w) (h1 : BtRaw w a A1) (h2 : BtRaw w b A2) (n1 : greatBt a = false) (n2 : greatBt b = false) :
    Calls Tryd.prog 5 #[(.agg #[.int .i64 a.pid, .int .i64 a.ep, .int .i64 a.seq, .bool a.txn, .slice A1 a.rs.length c1]), (.agg #[.int .i64 b.pid, .int .i64 b.ep, .int .i64 b.seq, .bool b.txn, .slice A2 b.rs.length c2]), .int .i64 off] w fun e w' => e = .returned (.bool true) ∧ Below w.heap.size w w' := by
  have l1 := (not_great n1).1
  have HB := Lib.hid (bal (bal (Below.refl w.heap.size w) (.cells #[.int .i64 a.pid, .int .i64 a.ep, .int .i64 a.seq, .bool a.txn, .slice A1 a.rs.length c1] 40)) (.cells #[.int .i64 b.pid, .int .i64 b.ep, .int .i64 b.seq, .bool b.txn, .slice A2 b.rs.length c2] 40))
  have K1 := Lib.hid ((Blk.new w 40 #[.int .i64 a.pid, .int .i64 a.ep, .int .i64 a.seq, .bool a.txn, .slice A1 a.rs.length c1]).alloc (.cells #[.int .i64 b.pid, .int .i64 b.ep, .int .i64 b.seq, .bool b.txn, .slice A2 b.rs.length c2] 40))
  have kk := Blk.new (w.alloc (.cells #[.int .i64 a.pid, .int .i64 a.ep, .int .i64 a.seq, .bool a.txn, .slice A1 a.rs.length c1] 40)) 40 #[.int .i64 b.pid, .int .i64 b.ep, .int .i64 b.seq, .bool b.txn, .slice A2 b.rs.length c2]
  rw [World.size_alloc] at kk
  have K2 := Lib.hid kk
  have g1 := (fun W (h : Below w.heap.size w W) => Great_any a A1 c1 W ((h1.1.below h).more h.size) h1.2.1 h1.2.2)
  have g2 := (fun W (h : Below w.heap.size w W) => Great_any b A2 c2 W ((h2.1.below h).more h.size) h2.2.1 h2.2.2)
  rw [n1] at g1
  rw [n2] at g2
  have G1 := Lib.hid g1
  have G2 := Lib.hid g2
  have M1 := Lib.hid (fun W (h : Below w.heap.size w W) => RcMay_any a A1 c1 W ((h1.1.below h).more h.size))
  have M2 := Lib.hid (fun W (h : Below w.heap.size w W) => rRcMay_any a A1 c1 W ((h1.1.below h).more h.size))
  have Y1 := Lib.hid (fun W (h : Below w.heap.size w W) => RcBytes_any a A1 c1 W ((h1.1.below h).more h.size) (hg.up h))
  have Y2 := Lib.hid (fun W (h : Below w.heap.size w W) => rRcBytes_any a A1 c1 W ((h1.1.below h).more h.size))
  have S1 := Lib.hid (fun W (h : Below w.heap.size w W) => RcSame_any a b A1 A2 c1 c2 W ((h1.1.below h).more h.size) ((h2.1.below h).more h.size) (by omega))
  have S2 := Lib.hid (fun W (h : Below w.heap.size w W) => rRcSame_any a b A1 A2 c1 c2 W ((h1.1.below h).more h.size) ((h2.1.below h).more h.size) (by omega))
  have E1 := Lib.hid (fun W => Behind_any a A1 c1 W)
  have E2 := Lib.hid (fun W => rBehind_any a A1 c1 W)
  have O1 := Lib.hid (fun W (h : Below w.heap.size w W) => Rows_any a A1 c1 off W ((h1.1.below h).more h.size) (by omega))
  have O2 := Lib.hid (fun W (h : Below w.heap.size w W) => rRows_any a A1 c1 off W ((h1.1.below h).more h.size) (by omega))
  have hrl : (rowsBt a off).length ≤ 1000000 := by rw [rowsBt_len]; omega
  generalize mayBt a = q1 at *
  generalize sameBt a b = q2 at *
  generalize behindB a = q3 at *
  generalize (bytesBt a).1 = q4 at *
  generalize (bytesBt a).2 = q5 at *
  generalize rowsBt a off = RB at *
  have P1 := Lib.hid (fun A A' B B' c c' W h h' => SameRows_same A A' RB c c' B B' W h h' hrl)
  clear kk hg h1 h2 n1 n2 g1 g2
  go_enter Tryd.func5, Tryd.ntmps5
  go_wp2_with fail
  refine (G1.out _ HB.out).mono ?_
  rintro e w1 ⟨rfl, b1⟩
  have bf := btrans HB.out b1
  have hz := b1.size
  simp only [World.size_alloc] at hz
  have k5 := K1.out.below b1 (by simp only [World.size_alloc]; omega)
  have k6 := K2.out.below b1 (by simp only [World.size_alloc]; omega)
  have y0 := k6.cell 0
  have y1 := k6.cell 1
  have y2 := k6.cell 2
  have y3 := k6.cell 3
  have y4 := k6.cell 4
  go_wp2_with fail
  refine (G2.out _ bf).mono ?_
  rintro e w2 ⟨rfl, b2⟩
  have bg := btrans bf b2
  have k7 := k5.below b2 (by omega)
  have k8 := k6.below b2 (by omega)
  have hz2 := b2.size
  clear y0 y1 y2 y3 y4 k5 k6 b1 b2 bf
  have x0 := k7.cell 0
  have x1 := k7.cell 1
  have x2 := k7.cell 2
  have x3 := k7.cell 3
  have x4 := k7.cell 4
  go_wp2_with fail
  refine (Y1.out _ bg).mono ?_
  rintro e w3 ⟨rfl, b3⟩
  have bh := btrans bg b3
  have k9 := k7.below b3 (by omega)
  have k10 := k8.below b3 (by omega)
  have hz3 := b3.size
  clear x0 x1 x2 x3 x4 k7 k8 b3 bg
  have x0 := k9.cell 0
  have x1 := k9.cell 1
  have x2 := k9.cell 2
  have x3 := k9.cell 3
  have x4 := k9.cell 4
  go_wp2_with fail
  refine (Y2.out _ bh).mono ?_
  rintro e w4 ⟨rfl, b4⟩
  have bi := btrans bh b4
  have k11 := k9.below b4 (by omega)
  have k12 := k10.below b4 (by omega)
  clear x0 x1 x2 x3 x4 k9 k10 b4 bh
  have x0 := k11.cell 0
  have x1 := k11.cell 1
  have x2 := k11.cell 2
  have x3 := k11.cell 3
  have x4 := k11.cell 4
  have y0 := k12.cell 0
  have y1 := k12.cell 1
  have y2 := k12.cell 2
  have y3 := k12.cell 3
  have y4 := k12.cell 4
  clear k11 k12
  go_wp2_with fail
  simp at x0 x1 x2 x3 x4 y0 y1 y2 y3 y4
  go_region_held3 (fun W => Below w.heap.size w W ∧ W.cell? ⟨w.heap.size, 0, none⟩ = some (.int .i64 a.pid) ∧ W.cell? ⟨w.heap.size, 1, none⟩ = some (.int .i64 a.ep) ∧ W.cell? ⟨w.heap.size, 2, none⟩ = some (.int .i64 a.seq) ∧ W.cell? ⟨w.heap.size, 3, none⟩ = some (.bool a.txn) ∧ W.cell? ⟨w.heap.size, 4, none⟩ = some (.slice A1 a.rs.length c1) ∧ W.cell? ⟨w.heap.size + 1, 0, none⟩ = some (.int .i64 b.pid) ∧ W.cell? ⟨w.heap.size + 1, 1, none⟩ = some (.int .i64 b.ep) ∧ W.cell? ⟨w.heap.size + 1, 2, none⟩ = some (.int .i64 b.seq) ∧ W.cell? ⟨w.heap.size + 1, 3, none⟩ = some (.bool b.txn) ∧ W.cell? ⟨w.heap.size + 1, 4, none⟩ = some (.slice A2 b.rs.length c2))
    (first | exact ⟨bi.drew, x0, x1, x2, x3, x4, y0, y1, y2, y3, y4⟩ | (go_split_ands; exact ⟨btrans (by assumption) hb, keepB (by assumption) hb, keepB (by assumption) hb, keepB (by assumption) hb, keepB (by assumption) hb, keepB (by assumption) hb, keepB (by assumption) hb, keepB (by assumption) hb, keepB (by assumption) hb, keepB (by assumption) hb, keepB (by assumption) hb⟩))
    (first | (go_at_call 27; refine (wakes06 _).mono ?_; rintro e w' ⟨rfl, hb⟩) | (go_at_call 29; refine (M1.out _ (by go_split_ands; assumption)).mono ?_; rintro e w' ⟨rfl, hb⟩) | (go_at_call 33; refine (M2.out _ (by go_split_ands; assumption)).mono ?_; rintro e w' ⟨rfl, hb⟩) | (go_at_call 34; refine (S1.out _ (by go_split_ands; assumption)).mono ?_; rintro e w' ⟨rfl, hb⟩) | (go_at_call 31; refine (S2.out _ (by go_split_ands; assumption)).mono ?_; rintro e w' ⟨rfl, hb⟩) | (go_at_call 30; refine (E1.out _).mono ?_; rintro e w' ⟨rfl, hb⟩) | (go_at_call 35; refine (E2.out _).mono ?_; rintro e w' ⟨rfl, hb⟩) | (go_at_call 37; refine (O1.out _ (by go_split_ands; assumption)).mono ?_; rintro e w' ⟨A5, c5, rfl, r5, hc5, hb⟩) | (go_at_call 38; refine (O2.out _ (by go_split_ands; assumption)).mono ?_; rintro e w' ⟨A6, c6, rfl, r6, hc6, hb⟩; have r7 := r5.below hb) | (go_at_call 36; refine (P1.out _ _ _ _ _ _ _ r7 r6).mono ?_; rintro e w' ⟨rfl, hb⟩))
  go_wp2_with fail
  go_ret
  exact ⟨rfl, by go_split_ands; assumption⟩
theorem rtell_walk (a b : Bat) (A1 A2 : Option Addr) (c1 c2 : Nat) (off : Int) (w : World) (hg : HasET w) (h1 : BtRaw w a A1) (h2 : BtRaw w b A2) :
    Calls Tryd.prog 5 #[(.agg #[.int .i64 a.pid, .int .i64 a.ep, .int .i64 a.seq, .bool a.txn, .slice A1 a.rs.length c1]), (.agg #[.int .i64 b.pid, .int .i64 b.ep, .int .i64 b.seq, .bool b.txn, .slice A2 b.rs.length c2]), .int .i64 off] w fun e w' => e = .returned (.bool true) ∧ Below w.heap.size w w' := by
  cases n1 : greatBt a
  · cases n2 : greatBt b
    · exact rtell_ok a b A1 A2 c1 c2 off w hg h1 h2 n1 n2
    · exact rtell_big a b A1 A2 c1 c2 off w h1 h2 (.inr ⟨n1, n2⟩)
  · exact rtell_big a b A1 A2 c1 c2 off w h1 h2 (.inl n1)
end Go.Proofs.YtcockikekgmfkaaDoor
namespace Go.Proofs.YtcockikekgmfkaaDoor
open Go.Joins Go.ChangeShapes Go.WideShapes Go.RowKit Go.Deep

theorem cellsR_get : ∀ (l : List Rec) (j : Nat) (u : Value), (cellsR l)[j]? = some u → ∃ i k p, j = i * 2 + k ∧ k < 2 ∧ l[i]? = some p ∧ u = (if k = 0 then .string p.1 else .string p.2) := by
  intro l j u hu
  have hj : j < l.length * 2 := by
    have := (List.getElem?_eq_some_iff.1 hu).1
    rwa [length_cellsR] at this
  have hi : j / 2 < l.length := by omega
  obtain ⟨p, hp⟩ : ∃ p, l[j / 2]? = some p := ⟨_, List.getElem?_eq_getElem hi⟩
  obtain ⟨h0, h1⟩ := cellsR_at l (j / 2) p hp
  refine ⟨j / 2, j % 2, p, by omega, by omega, hp, ?_⟩
  have hk : j % 2 = 0 ∨ j % 2 = 1 := by omega
  rcases hk with hk | hk
  · rw [show j = j / 2 * 2 by omega, h0] at hu
    rw [if_pos hk]
    exact (Option.some.inj hu).symm
  · rw [show j = j / 2 * 2 + 1 by omega, h1] at hu
    rw [if_neg (by omega)]
    exact (Option.some.inj hu).symm

section
variable {H : Type} {enc : TypeId × Value → H} {W : World}
theorem field_recs {fuel : Nat} {v : Value} {x : DataW H × List MemPlace} (h : DataW.trod enc Tryd.prog W 0 (fun _ => true) true fuel 38 [v] = some x) :
    ∃ (A : Option Addr) (c : Nat) (l : List Rec), v = .slice A l.length c ∧ l.length ≤ c ∧ c ≤ maxLen ∧ Reads W W.heap.size 2 A l.length (cellsR l) ∧ ∀ r ∈ l, r.1.size ≤ maxLen ∧ r.2.size ≤ maxLen := by
  rcases open_slice_fields Tryd.underlying38 Tryd.underlying70 (by kernel_rfl) (by kernel_rfl) h with ⟨hcs, _⟩ | ⟨a, len, cap, m, D, Pl, hcs, _, hl, hm, hmm, hx, hi⟩
  · simp at hcs
    subst hcs
    exact ⟨none, 0, [], rfl, Nat.le_refl _, Nat.zero_le _, Reads.none_, by simp⟩
  · simp at hcs
    subst hcs
    simp only [if_true] at hmm
    subst hmm
    have hp : ∀ i, ∃ p : Rec, (p.1.size ≤ maxLen ∧ p.2.size ≤ maxLen) ∧ (i < len → W.cell? (a.add (i * 2 + 0)) = some (.string p.1) ∧ W.cell? (a.add (i * 2 + 1)) = some (.string p.2)) := by
      intro i
      by_cases hlt : i < len
      · obtain ⟨ys, n, _, _, _, hf⟩ := hi i (by omega)
        obtain ⟨v0, y0, hc0, _, t0⟩ := hf 0 _ rfl
        obtain ⟨v1, y1, hc1, _, t1⟩ := hf 1 _ rfl
        obtain ⟨z0, e0, _, m0⟩ := DataW.trod_string Tryd.underlying9 t0
        obtain ⟨z1, e1, _, m1⟩ := DataW.trod_string Tryd.underlying9 t1
        simp at e0 e1
        subst e0; subst e1
        exact ⟨(z0, z1), ⟨m0, m1⟩, fun _ => ⟨hc0, hc1⟩⟩
      · exact ⟨(ByteArray.empty, ByteArray.empty), ⟨Nat.zero_le _, Nat.zero_le _⟩, fun h => absurd h hlt⟩
    refine ⟨some a, m, (List.range len).map fun i => Classical.choose (hp i), by simp, by simpa using hl, hm, ⟨by rw [length_cellsR], fun hn => ⟨a, rfl, ?_, fun j u hu => ?_⟩⟩, fun r hr => ?_⟩
    · simp at hn
      exact cell_block ((Classical.choose_spec (hp 0)).2 hn).1
    · obtain ⟨i, k, p, rfl, hk, hpi, rfl⟩ := cellsR_get _ j u hu
      rw [List.getElem?_map, Option.map_eq_some_iff] at hpi
      obtain ⟨i', hi', rfl⟩ := hpi
      have hlt : i < len := by
        have := (List.getElem?_eq_some_iff.1 hi').1
        simpa using this
      rw [List.getElem?_range hlt] at hi'
      obtain rfl : i = i' := by simpa using hi'
      obtain ⟨q0, q1⟩ := (Classical.choose_spec (hp i)).2 hlt
      have hk3 : k = 0 ∨ k = 1 := by omega
      rcases hk3 with rfl | rfl
      · exact q0
      · exact q1
    · obtain ⟨i, _, rfl⟩ := List.mem_map.1 hr
      exact (Classical.choose_spec (hp i)).1

set_option maxRecDepth 100000 in
theorem open_bt {r : Reach} {base : Nat} {v : Value} {d : DataW H} {p : List MemPlace} (hv : Value.okWide Tryd.prog W r base 40 v) (h : DataW.Trod enc Tryd.prog W 0 (fun _ => true) true 40 v d p) :
    ∃ (b : Bat) (A1 : Option Addr) (c1 : Nat), v = (.agg #[.int .i64 b.pid, .int .i64 b.ep, .int .i64 b.seq, .bool b.txn, .slice A1 b.rs.length c1]) ∧ BtRaw W b A1 ∧ b.rs.length ≤ c1 ∧ (-9223372036854775808 ≤ b.pid ∧ b.pid ≤ 9223372036854775807) ∧ (-9223372036854775808 ≤ b.ep ∧ b.ep ≤ 9223372036854775807) ∧ (-9223372036854775808 ≤ b.seq ∧ b.seq ≤ 9223372036854775807) := by
  obtain ⟨v0, v1, v2, v3, v4, y0, y1, y2, y3, y4, n, rfl, _, _, t0, t1, t2, t3, t4⟩ := open_agg5 Tryd.underlying40 (by kernel_rfl) (by kernel_rfl) hv h
  obtain ⟨z0, e0, _, w0⟩ := DataW.trod_int Tryd.underlying3 t0
  obtain ⟨z1, e1, _, w1⟩ := DataW.trod_int Tryd.underlying3 t1
  obtain ⟨z2, e2, _, w2⟩ := DataW.trod_int Tryd.underlying3 t2
  obtain ⟨z3, e3, _⟩ := DataW.trod_bool Tryd.underlying4 t3
  obtain ⟨A1, c1, l1, rfl, k1, hm1, r1, s1⟩ := field_recs t4
  simp at e0 e1 e2 e3
  subst e0; subst e1; subst e2; subst e3
  simp only [Lit.wf, Bool.and_eq_true, decide_eq_true_eq] at w0 w1 w2
  unfold maxLen at hm1 s1
  exact ⟨⟨z0, z1, z2, z3, l1⟩, A1, c1, rfl, ⟨r1, by show l1.length ≤ _; omega, s1⟩, k1, w0, w1, w2⟩
end
end Go.Proofs.YtcockikekgmfkaaDoor
namespace Go.Proofs.YtcockikekgmfkaaDoor
open Go.RowKit

/-- Go's remainder, brought into its range. -/
theorem cutr_in (cut : Int) (n : Nat) (h : 0 < n) : ∃ k : Nat, k < n ∧ ((cut.tmod n + n).tmod n) = (k : Int) := by
  have h1 := Int.tmod_lt_of_pos cut (show (0 : Int) < n by omega)
  have h2 : -(n : Int) < cut.tmod n := by
    have h3 := Int.lt_tmod_of_pos cut (show (0 : Int) < n by omega)
    exact h3
  have h3 : 0 ≤ (cut.tmod n + n).tmod n := Int.tmod_nonneg _ (by omega)
  have h4 := Int.tmod_lt_of_pos (cut.tmod n + n) (show (0 : Int) < n by omega)
  exact ⟨((cut.tmod n + n).tmod n).toNat, by omega, by omega⟩

theorem readBt_cases (l : List UInt8) : (∃ x, readBt l = (x, 0) ∧ mayBt x = true ∧ l = encBt x) ∨ readBt l = (Bat0, 70) := by
  rcases readBt_code l with h | h
  · obtain ⟨h1, h2⟩ := readBt_only h
    exact .inl ⟨(readBt l).1, Prod.ext rfl h, h1, h2⟩
  · exact .inr h
theorem RcRead_z {s : ByteArray} {x : Bat} {n : Int} (hz : readBt (lb s) = (x, n)) {W : World} (hg : HasET W) (hs : s.size ≤ 100000) : Calls Tryd.prog 48 #[.string s] W (RbP x n W) := by
  have := RcRead_any s W hg hs
  rw [hz] at this
  exact this

theorem and_mask40 (x : Int) (h0 : 0 ≤ x) (h1 : x ≤ 9223372036854775807) : ∃ o : Nat, bits .and .i64 x 1099511627775 = (o : Int) ∧ o ≤ 1099511627775 := by
  obtain ⟨n, rfl⟩ := Int.eq_ofNat_of_zero_le h0
  have hx : n &&& 1099511627775 ≤ 1099511627775 := Nat.and_le_right
  have e1 : (BitVec.ofInt 64 (n : Int)).toNat = n := by
    rw [BitVec.ofInt_natCast, BitVec.toNat_ofNat]; exact Nat.mod_eq_of_lt (by omega)
  refine ⟨n &&& 1099511627775, ?_, hx⟩
  show IntKind.i64.wrap ((BitVec.ofInt 64 (n : Int) &&& BitVec.ofInt 64 1099511627775).toNat : Int) = _
  have e2 : (BitVec.ofInt 64 1099511627775).toNat = 1099511627775 := by decide
  rw [BitVec.toNat_and, e1, e2, IntKind.wrap_i64]
  omega
theorem max_ex (x : Int) (h1 : x ≤ 9223372036854775807) : ∃ (mx : Int) (o : Nat), (if x < 0 then (0 : Int) else x) = mx ∧ bits .and .i64 mx 1099511627775 = (o : Int) ∧ o ≤ 1099511627775 := by
  obtain ⟨o, h2, h3⟩ := and_mask40 (if x < 0 then (0 : Int) else x) (by split <;> omega) (by split <;> omega)
  exact ⟨_, o, rfl, h2, h3⟩

theorem rowsBt_at (b : Bat) (o : Nat) (hm : mayBt b = true) (ho : o ≤ 1099511627775) (k : Nat) (r : Rec) (hr : b.rs[k]? = some r) : (rowsBt b (o : Int))[k]? = some ((o : Int) + k, b.pid, b.seq + k, r.1, r.2) := by
  have hk := (List.getElem?_eq_some_iff.1 hr).1
  have hm1 := ((mayBt_iff b).1 hm).1
  have h := rowsTo_at b (o : Int) b.rs.length k r (Nat.le_refl _) hk hr
  have e : rowAt b (o : Int) k r = ((o : Int) + k, b.pid, b.seq + k, r.1, r.2) := by
    unfold rowAt
    rw [if_neg (by omega), IntWalk.wrap64_in _ ⟨by omega, by omega⟩, IntWalk.wrap64_in _ ⟨by omega, by omega⟩]
  rw [← e]
  exact h
theorem behind_may (b : Bat) (hm : mayBt b = true) : behindB b = b.seq + (b.rs.length : Int) := by
  have hm1 := ((mayBt_iff b).1 hm).1
  unfold behindB
  exact IntWalk.wrap64_in _ ⟨by omega, by omega⟩

set_option maxRecDepth 100000 in
set_option maxHeartbeats 2000000 in
theorem rback_big (b : Bat) (A1 : Option Addr) (c1 : Nat) (raw : ByteArray) (cut off : Int) (w : World) (h1 : BtRaw w b A1) (hbig : greatBt b = true ∨ (greatBt b = false ∧ 4000 < raw.size)) :
    Calls Tryd.prog 9 #[(.agg #[.int .i64 b.pid, .int .i64 b.ep, .int .i64 b.seq, .bool b.txn, .slice A1 b.rs.length c1]), .string raw, .int .i64 cut, .int .i64 off] w fun e w' => e = .returned (.bool true) ∧ Below w.heap.size w w' := by
  have HB := Lib.hid (bal (Below.refl w.heap.size w) (.cells #[.int .i64 b.pid, .int .i64 b.ep, .int .i64 b.seq, .bool b.txn, .slice A1 b.rs.length c1] 40))
  have G1 := (fun W (h : Below w.heap.size w W) => Great_any b A1 c1 W ((h1.1.below h).more h.size) h1.2.1 h1.2.2)
  rcases hbig with hb | ⟨hb, hd⟩
  · rw [hb] at G1
    have G2 := Lib.hid G1
    clear G1 h1 hb
    go_enter Tryd.func9, Tryd.ntmps9
    go_wp2_with fail
    refine (G2.out _ HB.out).mono ?_
    rintro e w1 ⟨rfl, b1⟩
    have BE := Lib.hid (btrans HB.out b1)
    clear b1
    go_wp2_with fail
    refine (wakes06 _).mono ?_
    rintro e w2 ⟨rfl, b2⟩
    go_wp2_with fail
    go_ret
    exact ⟨rfl, btrans BE.out b2⟩
  · rw [hb] at G1
    have G2 := Lib.hid G1
    have d1 : decide ((4000 : Int) < (raw.size : Int)) = true := by simp; omega
    clear G1 h1 hb hd
    go_enter Tryd.func9, Tryd.ntmps9
    go_wp2_with fail
    refine (G2.out _ HB.out).mono ?_
    rintro e w1 ⟨rfl, b1⟩
    have BE := Lib.hid (btrans HB.out b1)
    clear b1
    go_wp2_with fail
    refine (wakes06 _).mono ?_
    rintro e w2 ⟨rfl, b2⟩
    go_wp2_with fail
    go_ret
    exact ⟨rfl, btrans BE.out b2⟩

set_option maxRecDepth 100000 in
set_option maxHeartbeats 8000000 in
theorem rback_ok (b : Bat) (A1 : Option Addr) (c1 : Nat) (raw : ByteArray) (cut off : Int) (w : World) (hg : HasET w) (h1 : BtRaw w b A1) (n1 : greatBt b = false) (hraw : raw.size ≤ 4000) (hoff : off ≤ 9223372036854775807) :
    Calls Tryd.prog 9 #[(.agg #[.int .i64 b.pid, .int .i64 b.ep, .int .i64 b.seq, .bool b.txn, .slice A1 b.rs.length c1]), .string raw, .int .i64 cut, .int .i64 off] w fun e w' => e = .returned (.bool true) ∧ Below w.heap.size w w' := by
  have HB := Lib.hid (bal (Below.refl w.heap.size w) (.cells #[.int .i64 b.pid, .int .i64 b.ep, .int .i64 b.seq, .bool b.txn, .slice A1 b.rs.length c1] 40))
  have K0 := Lib.hid (Blk.new w 40 #[.int .i64 b.pid, .int .i64 b.ep, .int .i64 b.seq, .bool b.txn, .slice A1 b.rs.length c1])
  have g1 := (fun W (h : Below w.heap.size w W) => Great_any b A1 c1 W ((h1.1.below h).more h.size) h1.2.1 h1.2.2)
  rw [n1] at g1
  have G1 := Lib.hid g1
  have HR := Lib.hid (fun W (h : Below w.heap.size w W) => (h1.1.below h))
  have M1 := Lib.hid (fun W (h : Below w.heap.size w W) => RcMay_any b A1 c1 W ((h1.1.below h).more h.size))
  have Y1 := Lib.hid (fun W (h : Below w.heap.size w W) => RcBytes_any b A1 c1 W ((h1.1.below h).more h.size) (hg.up h))
  have HG := Lib.hid (fun W (h : Below w.heap.size w W) => hg.up h)
  have hl := (not_great n1).1
  have d1 : decide ((4000 : Int) < (raw.size : Int)) = false := by simp; omega
  obtain ⟨x, ex, hz⟩ : ∃ x ex, readBt (lb raw) = (x, ex) := ⟨_, _, rfl⟩
  have RD1 := Lib.hid (fun W (h : Below w.heap.size w W) => RcRead_z hz (HG.out W h) (by omega : raw.size ≤ 100000))
  have hx : (ex = 0 ∧ mayBt x = true ∧ bytesBt x = (raw, 0)) ∨ ex = 70 := by
    rcases readBt_cases (lb raw) with ⟨x', h, hm, he⟩ | h
    · rw [hz] at h
      injection h with h1 h2
      subst h1
      refine .inl ⟨h2, hm, ?_⟩
      unfold bytesBt
      rw [if_pos hm, ← he, bs_lb]
    · rw [hz] at h
      injection h with _ h2
      exact .inr h2
  have HX := Lib.hid hx
  obtain ⟨mx, o, hmx, hbo, ho⟩ := max_ex off hoff
  have RW := Lib.hid (fun W (h : Below w.heap.size w W) => Rows_any b A1 c1 (o : Int) W ((h1.1.below h).more h.size) (by omega))
  clear hz hx h1 g1 n1 hg hraw hoff
  go_enter Tryd.func9, Tryd.ntmps9
  go_wp2_with fail
  refine (G1.out _ HB.out).mono ?_
  rintro e w1 ⟨rfl, b1⟩
  have KB1 := Lib.hid (K0.out.below b1 (by simp))
  have BE1 := Lib.hid (btrans HB.out b1)
  clear b1
  go_wp2_with fail
  refine (RD1.out _ BE1.out).mono ?_
  rintro e w2 ⟨A5, c5, rfl, o5, hc5, b2⟩
  have KB2 := Lib.hid ((KB1.out.below b2 KB1.out.lt).alloc (.cells #[.int .i64 x.pid, .int .i64 x.ep, .int .i64 x.seq, .bool x.txn, .slice A5 x.rs.length c5] 40))
  have X2 := Lib.hid (blk_new w2 40 #[.int .i64 x.pid, .int .i64 x.ep, .int .i64 x.seq, .bool x.txn, .slice A5 x.rs.length c5] rfl)
  have BE2 := Lib.hid (bal (btrans BE1.out b2) (.cells #[.int .i64 x.pid, .int .i64 x.ep, .int .i64 x.seq, .bool x.txn, .slice A5 x.rs.length c5] 40))
  have O5 := Lib.hid (Reads.of_own (o5.alloc (.cells #[.int .i64 x.pid, .int .i64 x.ep, .int .i64 x.seq, .bool x.txn, .slice A5 x.rs.length c5] 40)))
  clear b2 o5 hc5
  go_upto_if 37 with (fail)
  go_cut [8] (fun s8 wx => s8 = .bool false ∧ Blk wx w.heap.size 40 #[.int .i64 b.pid, .int .i64 b.ep, .int .i64 b.seq, .bool b.txn, .slice A1 b.rs.length c1] ∧ Below w.heap.size w wx)
  case first =>
    rcases HX.out with ⟨he, hm, hby⟩ | he
    · subst he
      have Y5 := RcBytes_any x A5 c5 _ O5.out (HG.out _ BE2.out)
      rw [hby] at Y5
      have Y6 := Lib.hid Y5
      have m6 := fun W h => RcMay_any x A5 c5 W h
      rw [hm] at m6
      have M6 := Lib.hid m6
      have x0 := X2.out.cell 0
      have x1 := X2.out.cell 1
      have x2 := X2.out.cell 2
      have x3 := X2.out.cell 3
      have x4 := X2.out.cell 4
      clear hm hby Y5 m6
      go_wp2_with fail
      refine Y6.out.mono ?_
      rintro e w3 ⟨rfl, b3⟩
      have x2' := X2.out.below b3 (by simp)
      have KB3 := Lib.hid (KB2.out.below b3 KB2.out.lt)
      have BE3 := Lib.hid (btrans BE2.out b3)
      have O6 := Lib.hid ((O5.out.below b3).more b3.size)
      clear x0 x1 x2 x3 x4 b3
      have x0 := x2'.cell 0
      have x1 := x2'.cell 1
      have x2 := x2'.cell 2
      have x3 := x2'.cell 3
      have x4 := x2'.cell 4
      clear x2'
      go_wp2_with fail
      refine (M6.out _ O6.out).mono ?_
      rintro e w4 ⟨rfl, b4⟩
      have KB4 := Lib.hid (KB3.out.below b4 KB3.out.lt)
      have BE4 := Lib.hid (btrans BE3.out b4)
      clear x0 x1 x2 x3 x4 b4
      go_wp2_with fail
      go_meet
      exact ⟨rfl, KB4.out, BE4.out⟩
    · subst he
      go_wp2_with fail
      go_meet
      exact ⟨rfl, KB2.out, BE2.out⟩
  case rest =>
    clear HX O5 X2 BE2 KB2 BE1 KB1 RD1 G1 K0 HB
    obtain ⟨rfl, kb3, be3⟩ := hcut
    have KB3 := Lib.hid kb3
    have BE3 := Lib.hid be3
    have x0 := kb3.cell 0
    have x1 := kb3.cell 1
    have x2 := kb3.cell 2
    have x3 := kb3.cell 3
    have x4 := kb3.cell 4
    clear kb3 be3
    cases hm : mayBt b with
    | false =>
      have y2 := Y1.out
      unfold bytesBt at y2
      simp only [hm, Bool.false_eq_true, if_false] at y2
      have Y2 := Lib.hid y2
      have m2 := M1.out
      rw [hm] at m2
      have M2 := Lib.hid m2
      clear hm y2 m2 Y1 M1
      go_wp2_with fail
      refine (Y2.out _ BE3.out).mono ?_
      rintro e w4 ⟨rfl, b4⟩
      have kb4 := KB3.out.below b4 KB3.out.lt
      have BE4 := Lib.hid (btrans BE3.out b4)
      clear x0 x1 x2 x3 x4 b4
      have x0 := kb4.cell 0
      have x1 := kb4.cell 1
      have x2 := kb4.cell 2
      have x3 := kb4.cell 3
      have x4 := kb4.cell 4
      clear kb4
      go_wp2_with fail
      refine (M2.out _ BE4.out).mono ?_
      rintro e w5 ⟨rfl, b5⟩
      have BE5 := Lib.hid (btrans BE4.out b5)
      clear x0 x1 x2 x3 x4 b5
      go_wp2_with fail
      refine (wakes06 _).mono ?_
      rintro e w6 ⟨rfl, b6⟩
      go_wp2_with fail
      go_ret
      exact ⟨rfl, btrans BE5.out b6⟩
    | true =>
      have y2 := Y1.out
      unfold bytesBt at y2
      simp only [hm, if_true] at y2
      obtain ⟨ln, hln⟩ := encBt_len b hm
      obtain ⟨L, hL⟩ : ∃ L, encBt b = L := ⟨_, rfl⟩
      obtain ⟨t, ht⟩ : ∃ t, bs L = t := ⟨_, rfl⟩
      have hlb : lb t = L := by rw [← ht, lb_bs]
      have hsz : t.size = L.length := by rw [← ht, size_bs]
      rw [hL] at y2 ln hln
      rw [ht] at y2
      have RD2 := Lib.hid (fun W (h : Below w.heap.size w W) => RcRead_z (s := t) (x := b) (n := 0) (by rw [hlb, ← hL]; exact readBt_ok hm) (HG.out W h) (by omega : t.size ≤ 100000))
      obtain ⟨kk, hkk, hkv⟩ := cutr_in cut t.size (by omega)
      have RD3 := Lib.hid (fun W (h : Below w.heap.size w W) => RcRead_z (s := t.extract 0 kk) (x := Bat0) (n := 70) (by
        refine readBt_other (b := b) (t := L.drop kk) hm (.inl ?_) ?_
        · rw [lb_extract, List.drop_zero, hlb, hL, List.take_append_drop]
        · intro h
          have := congrArg List.length h
          rw [List.length_drop, List.length_nil] at this
          omega) (HG.out W h) (by have := length_lb (t.extract 0 kk); rw [lb_extract, List.drop_zero, List.length_take] at this; omega))
      have RD4 := Lib.hid (fun W (h : Below w.heap.size w W) => RcRead_z (s := t ++ ⟨#[0]⟩) (x := Bat0) (n := 70) (by
        refine readBt_other (b := b) (t := [0]) hm (.inr ?_) (by simp)
        rw [lb_append, hlb, hL]; rfl) (HG.out W h) (by have := length_lb (t ++ ⟨#[0]⟩); rw [lb_append, List.length_append, length_lb] at this; have h2 : (lb ⟨#[0]⟩).length = 1 := rfl; omega))
      obtain ⟨cq, hcq⟩ : ∃ cq, cut.tmod (t.size : Int) = cq := ⟨_, rfl⟩
      have hc1 := Int.tmod_lt_of_pos cut (show (0 : Int) < t.size by omega)
      have hc2 := Int.lt_tmod_of_pos cut (show (0 : Int) < t.size by omega)
      rw [hcq] at hkv hc1 hc2
      have hkw : (cq + (t.size : Int)) % (t.size : Int) = kk := by rw [← hkv]; exact (Int.tmod_eq_emod_of_nonneg (by omega)).symm
      have hsl : ∀ W : World, (Instr.slice 9 (.string t) none (some (.int .i64 (kk : Int))) none).run Tryd.prog W = .ok (.string (t.extract 0 kk)) W := by
        intro W
        rw [run_slice_string_to_if W 9 t .i64 _ Tryd.underlying9, if_pos (by omega), Int.toNat_natCast]
      have e1 : decide ((160 : Int) < (t.size : Int)) = false := by simp; omega
      have e2 : ((t.size : Int) == 0) = false := eqb_false (by omega)
      have e3 : t.toList.isEmpty = false := by
        rw [toList_lb]
        cases hh : lb t with
        | nil => rw [hlb] at hh; rw [hh] at hln; simp at hln
        | cons _ _ => rfl
      have Y2 := Lib.hid y2
      have m2 := M1.out
      rw [hm] at m2
      have M2 := Lib.hid m2
      have HM := Lib.hid hm
      have hts : t.size ≤ 160 := by omega
      have hts0 : 1 ≤ t.size := by omega
      clear hm y2 m2 Y1 M1 hlb hsz ln hln hL ht
      go_wp2_with fail
      refine (Y2.out _ BE3.out).mono ?_
      rintro e w4 ⟨rfl, b4⟩
      have KB4 := Lib.hid (KB3.out.below b4 KB3.out.lt)
      have BE4 := Lib.hid (btrans BE3.out b4)
      clear x0 x1 x2 x3 x4 b4
      go_wp2_with fail
      refine (RD2.out _ BE4.out).mono ?_
      rintro e w5 ⟨A6, c6, rfl, o6, hc6, b5⟩
      have KB5 := Lib.hid ((KB4.out.below b5 KB4.out.lt).alloc (.cells #[.int .i64 b.pid, .int .i64 b.ep, .int .i64 b.seq, .bool b.txn, .slice A6 b.rs.length c6] 40))
      have X5 := Lib.hid (blk_new w5 40 #[.int .i64 b.pid, .int .i64 b.ep, .int .i64 b.seq, .bool b.txn, .slice A6 b.rs.length c6] rfl)
      have BE5 := Lib.hid (bal (btrans BE4.out b5) (.cells #[.int .i64 b.pid, .int .i64 b.ep, .int .i64 b.seq, .bool b.txn, .slice A6 b.rs.length c6] 40))
      have O6 := Lib.hid (Reads.of_own (o6.alloc (.cells #[.int .i64 b.pid, .int .i64 b.ep, .int .i64 b.seq, .bool b.txn, .slice A6 b.rs.length c6] 40)))
      clear b5 o6 hc6
      have x0 := KB5.out.cell 0
      have x1 := KB5.out.cell 1
      have x2 := KB5.out.cell 2
      have x3 := KB5.out.cell 3
      have x4 := KB5.out.cell 4
      go_wp2_with fail
      refine (M2.out _ BE5.out).mono ?_
      rintro e w6 ⟨rfl, b6⟩
      have kb6 := KB5.out.below b6 KB5.out.lt
      have X6 := X5.out.below b6 X5.out.lt
      have BE6 := Lib.hid (btrans BE5.out b6)
      have S6 := rRcSame_any b b A1 A6 c1 c6 w6 ((HR.out _ BE6.out).more BE6.out.size) ((O6.out.below b6).more b6.size) (by omega)
      rw [sameBt_self] at S6
      have S7 := Lib.hid S6
      have KB6 := Lib.hid kb6
      clear x0 x1 x2 x3 x4 b6 S6
      have x0 := kb6.cell 0
      have x1 := kb6.cell 1
      have x2 := kb6.cell 2
      have x3 := kb6.cell 3
      have x4 := kb6.cell 4
      have y0 := X6.cell 0
      have y1 := X6.cell 1
      have y2 := X6.cell 2
      have y3 := X6.cell 3
      have y4 := X6.cell 4
      clear kb6 X6
      go_wp2_with fail
      refine S7.out.mono ?_
      rintro e w7 ⟨rfl, b7⟩
      have KB7 := Lib.hid (KB6.out.below b7 KB6.out.lt)
      have BE7 := Lib.hid (btrans BE6.out b7)
      clear x0 x1 x2 x3 x4 y0 y1 y2 y3 y4 b7 S7 O6 X5
      go_wp2_with fail
      refine (RD3.out _ BE7.out).mono ?_
      rintro e w8 ⟨A8, c8, rfl, o8, hc8, b8⟩
      have KB8 := Lib.hid ((KB7.out.below b8 KB7.out.lt).alloc (.cells #[.int .i64 Bat0.pid, .int .i64 Bat0.ep, .int .i64 Bat0.seq, .bool Bat0.txn, .slice A8 Bat0.rs.length c8] 40))
      have BE8 := Lib.hid (bal (btrans BE7.out b8) (.cells #[.int .i64 Bat0.pid, .int .i64 Bat0.ep, .int .i64 Bat0.seq, .bool Bat0.txn, .slice A8 Bat0.rs.length c8] 40))
      clear b8 o8 hc8 hsl
      go_wp2_with fail
      refine (RD4.out _ BE8.out).mono ?_
      rintro e w9 ⟨A9, c9, rfl, o9, hc9, b9⟩
      have KB9 := (KB8.out.below b9 KB8.out.lt).alloc (.cells #[.int .i64 Bat0.pid, .int .i64 Bat0.ep, .int .i64 Bat0.seq, .bool Bat0.txn, .slice A9 Bat0.rs.length c9] 40)
      have BE9 := Lib.hid (bal (btrans BE8.out b9) (.cells #[.int .i64 Bat0.pid, .int .i64 Bat0.ep, .int .i64 Bat0.seq, .bool Bat0.txn, .slice A9 Bat0.rs.length c9] 40))
      have x0 := KB9.cell 0
      have x1 := KB9.cell 1
      have x2 := KB9.cell 2
      have x3 := KB9.cell 3
      have x4 := KB9.cell 4
      clear b9 o9 hc9
      go_wp2_with fail
      refine (RW.out _ BE9.out).mono ?_
      rintro e w10 ⟨A10, c10, rfl, r10, hc10, b10⟩
      have hrl := rowsBt_len b (o : Int)
      have HRA := Lib.hid (rowsBt_at b o HM.out ho)
      have HBH := Lib.hid (behind_may b HM.out)
      have hm1 := ((mayBt_iff b).1 HM.out).1
      have hsq : 0 ≤ b.seq ∧ b.seq ≤ 1048576 := by omega
      obtain ⟨hsq0, hsq1⟩ := hsq
      generalize rowsBt b (o : Int) = R at *
      have KB10 := Lib.hid (KB9.below b10 KB9.lt)
      have BE10 := Lib.hid (btrans BE9.out b10)
      have R10 := Lib.hid r10
      clear x0 x1 x2 x3 x4 b10 KB9 r10 hm1
      have x4 := KB10.out.cell 4
      go_wp2_with fail
      go_loopw [22] (fun x wr => ∃ k : Nat, k ≤ b.rs.length ∧ x = .int .i64 k ∧ Below w10.heap.size w10 wr) (fun x _ => b.rs.length - (intOf x).toNat)
      case atStart => exact ⟨0, Nat.zero_le _, rfl, Below.refl _ _⟩
      case round =>
        obtain ⟨k, hk, rfl, bel⟩ := hrel
        have BEL := Lib.hid bel
        have kb := KB10.out.below bel KB10.out.lt
        have BW1 := Lib.hid (btrans BE10.out bel)
        have hbz := bel.size
        clear bel x4
        by_cases hlt : k < b.rs.length
        · have q1 : decide ((k : Int) < (b.rs.length : Int)) = true := by simp; omega
          obtain ⟨r, hx⟩ : ∃ z, b.rs[k]? = some z := ⟨_, List.getElem?_eq_getElem hlt⟩
          have hy := HRA.out k r hx
          obtain ⟨b1, o1, rfl, hb1, hc1⟩ := (HR.out _ BW1.out).plain2 (by omega)
          obtain ⟨b2, o2, rfl, hb2, hc2⟩ := (R10.out.below BEL.out).plain5 (by rw [hrl]; omega)
          obtain ⟨f1, f2⟩ := hc1 k _ hx
          obtain ⟨g1, g2, g3, g4, g5⟩ := hc2 k _ hy
          have hw := BW1.out.size
          have i1 : (0 : Int) ≤ (k : Int) := by omega
          have i2 : (k : Int) < (b.rs.length : Int) := by omega
          have l1 : b1 < wr.heap.size := by omega
          have l2 : b2 < wr.heap.size := by omega
          have v1 : IntKind.i64.wrap (b.seq + (k : Int)) = b.seq + (k : Int) := IntWalk.i64_in _ (by omega)
          have v2 : IntKind.i64.wrap ((o : Int) + (k : Int)) = (o : Int) + (k : Int) := IntWalk.i64_in _ (by omega)
          have l0 := kb.lt
          have p0 := bw_cell (B := wr.heap.size) (kb.cell 0) l0
          have p2 := bw_cell (B := wr.heap.size) (kb.cell 2) l0
          have p4 := bw_cell (B := wr.heap.size) (kb.cell 4) l0
          have y1 := bw_cell (B := wr.heap.size) f1 l1
          have y2 := bw_cell (B := wr.heap.size) f2 l1
          have z1 := bw_cell (B := wr.heap.size) g1 l2
          have z2 := bw_cell (B := wr.heap.size) g2 l2
          have z3 := bw_cell (B := wr.heap.size) g3 l2
          have z4 := bw_cell (B := wr.heap.size) g4 l2
          have z5 := bw_cell (B := wr.heap.size) g5 l2
          clear hc1 hc2 hx hy f1 f2 g1 g2 g3 g4 g5 kb
          go_wp2_with fail
          refine wp_region_bq wr.heap.size (by kernel_rfl) (by kernel_rfl) ?_
          repeat (go_big_quiet_step (fail))
          refine wpQuiet_nil ?_
          rintro _ ⟨n, rfl⟩
          have hn := n.2
          clear v1 v2 p0 p2 p4 y1 y2 z1 z2 z3 z4 z5
          generalize n.1 = W at *
          go_wp2_with fail
          go_roundw
          case rel => exact ⟨k + 1, by omega, by go_num, BEL.out.trans (hn.mono hbz)⟩
          case measure => simp [intOf]; omega
        · obtain rfl : k = b.rs.length := by omega
          have q1 : decide ((b.rs.length : Int) < (b.rs.length : Int)) = false := by simp
          have l0 := kb.lt
          have p0 := bw_cell (B := wr.heap.size) (kb.cell 0) l0
          have p1 := bw_cell (B := wr.heap.size) (kb.cell 1) l0
          have p2 := bw_cell (B := wr.heap.size) (kb.cell 2) l0
          have p3 := bw_cell (B := wr.heap.size) (kb.cell 3) l0
          have p4 := bw_cell (B := wr.heap.size) (kb.cell 4) l0
          have hbh := fun W => Behind_any b A1 c1 W
          rw [HBH.out] at hbh
          have HB2 := Lib.hid hbh
          have v1 : IntKind.i64.wrap (b.seq + (b.rs.length : Int)) = b.seq + (b.rs.length : Int) := IntWalk.i64_in _ (by omega)
          clear kb hbh
          go_wp2_with fail
          refine wp_region_bq wr.heap.size (by kernel_rfl) (by kernel_rfl) ?_
          repeat (go_big_quiet_step ((first | (go_at_call 27; exact bw_call (Nat.le_refl _) (wakes06 _)) | (go_at_call 30; exact bw_call (Nat.le_refl _) (HB2.out _)))))
          refine wpQuiet_nil ?_
          rintro _ ⟨n, rfl⟩
          have hn := btrans BW1.out n.2
          go_wp2_with fail
          go_ret
          exact ⟨rfl, hn⟩

theorem rback_walk (b : Bat) (A1 : Option Addr) (c1 : Nat) (raw : ByteArray) (cut off : Int) (w : World) (hg : HasET w) (h1 : BtRaw w b A1) (hoff : off ≤ 9223372036854775807) :
    Calls Tryd.prog 9 #[(.agg #[.int .i64 b.pid, .int .i64 b.ep, .int .i64 b.seq, .bool b.txn, .slice A1 b.rs.length c1]), .string raw, .int .i64 cut, .int .i64 off] w fun e w' => e = .returned (.bool true) ∧ Below w.heap.size w w' := by
  cases n1 : greatBt b
  · by_cases hr : 4000 < raw.size
    · exact rback_big b A1 c1 raw cut off w h1 (.inr ⟨n1, hr⟩)
    · exact rback_ok b A1 c1 raw cut off w hg h1 n1 (by omega) hoff
  · exact rback_big b A1 c1 raw cut off w h1 (.inl n1)
end Go.Proofs.YtcockikekgmfkaaDoor
namespace Go.Proofs.YtcockikekgmfkaaDoor.recordBack
open Go.ChangeShapes Go.WideShapes Go.ChangeAt Go.RowKit
open Go.ChangeMaps (open_string shut_string)
set_option linter.unusedVariables false

theorem laid_met (os : Os) : laidMetH Tryd.prog Rows.recordBackRow.laid ((laidWorld os).forCall (fun _ _ => 0) ⟨#[], #[.agg #[.int .i64 0, .int .i64 0, .int .i64 0, .bool false, .slice none 0 0], .string ByteArray.empty, .int .i64 0, .int .i64 0], []⟩).memory :=
  laidMetH_of_parts (laidMet_nil _ _) (by kernel_rfl)
theorem reads (os : Os) {H : Type} (enc : TypeId × Value → H) : ∃ places, DataW.whole enc Tryd.prog ((laidWorld os).forCall (fun _ _ => 0) ⟨#[], #[.agg #[.int .i64 0, .int .i64 0, .int .i64 0, .bool false, .slice none 0 0], .string ByteArray.empty, .int .i64 0, .int .i64 0], []⟩).memory Tryd.f9.params.toList Rows.recordBackSpec.vars false (#[.agg #[.int .i64 0, .int .i64 0, .int .i64 0, .bool false, .slice none 0 0], .string ByteArray.empty, .int .i64 0, .int .i64 0] : Array Value).toList 8 = some ([.agg [.lit (.int .i64 0), .lit (.int .i64 0), .lit (.int .i64 0), .lit (.bool false), .nil], .lit (.string []), .lit (.int .i64 0), .lit (.int .i64 0)], [], places) :=
  ⟨[], by kernel_rfl⟩

set_option maxRecDepth 100000 in
theorem lifted (os : Os) (started : os.Started) (H : Type) (enc : TypeId × Value → H) (F : Stop.Interp) :
    ReturnsInHanded {} Tryd.checked os 9 .any ((OpenSpec.ofChange Rows.recordBackSpec).preRow enc Tryd.prog Tryd.f9 Rows.recordBackRow.domain false Rows.recordBackRow.laid) (((OpenSpec.ofChange Rows.recordBackSpec).at F).post enc Tryd.prog Tryd.f9 false true false false) := by
  obtain ⟨places, hx⟩ := reads os enc
  refine returnsInHanded_of_row (C := Tryd.checked) (s := OpenSpec.ofChange Rows.recordBackSpec) own started (by kernel_rfl) Tryd.func9
    (witness_row_at (enc := enc) (C := Tryd.checked) false (laidWorld os) #[.agg #[.int .i64 0, .int .i64 0, .int .i64 0, .bool false, .slice none 0 0], .string ByteArray.empty, .int .i64 0, .int .i64 0] rfl (by kernel_rfl) (by kernel_rfl) (by kernel_rfl)
      (OpenSpec.preRow_of_cond 8 hx (by kernel_rfl) (fun k hk => by cases hk) (by kernel_rfl) (laid_met os))) ?_
  intro W base args ds gs before hval0 hW _ _ hsz0 hL _ _
  have hg : HasET W := hasErr_of_laid hL
  have hval : ∀ (j : Nat) t v, Tryd.f9.params[j]? = some t → args[j]? = some v → Value.okWide Tryd.prog W .any base t v := hval0
  have hsz : (DataW.weightsEach Tryd.prog (Tryd.f9.params.toList ++ Rows.recordBackSpec.plain.varTypes Tryd.prog) (ds ++ gs)).all (· ≤ reachBytes) = true := hsz0
  have hW' := hW
  obtain ⟨p, q, hA0, hV, rfl, hfz, hnd⟩ := hW
  have hA : DataW.TrodAll enc Tryd.prog W 0 (fun _ => true) true Tryd.f9.params.toList args.toList ds p := hA0
  rw [Tryd.params9] at hA hval hsz
  obtain ⟨v0, vs0, d0, ds0, p0, q0, hargs, rfl, rfl, h0, r0⟩ := trodAll_cons hA
  obtain ⟨v1, vs1, d1, ds1, p1, q1, rfl, rfl, rfl, h1, r1⟩ := trodAll_cons r0
  obtain ⟨v2, vs2, d2, ds2, p2, q2, rfl, rfl, rfl, h2, r2⟩ := trodAll_cons r1
  obtain ⟨v3, vs3, d3, ds3, p3, q3, rfl, rfl, rfl, h3, r3⟩ := trodAll_cons r2
  obtain ⟨rfl, rfl, rfl⟩ := trodAll_nil r3
  obtain rfl : args = #[v0, v1, v2, v3] := by cases args; simp_all
  obtain ⟨rfl, rfl⟩ := trodVars_none hV
  have k0 := h0
  have lt0 : ∀ x ∈ p0, x.block < W.heap.size := by obtain ⟨m, hm⟩ := k0; exact DataW.trod_lt m _ _ _ hm
  obtain ⟨bt0, A0, c0, rfl, br0, bl0, bp0, be0, bq0⟩ := open_bt (hval 0 40 v0 rfl rfl) h0
  obtain ⟨a1, rfl, rfl, rfl, w1⟩ := open_string Tryd.underlying9 (hval 1 9 v1 rfl rfl) h1
  obtain ⟨a2, rfl, rfl, rfl, w2⟩ := open_int Tryd.underlying3 (hval 2 3 v2 rfl rfl) h2
  obtain ⟨a3, rfl, rfl, rfl, w3⟩ := open_int Tryd.underlying3 (hval 3 3 v3 rfl rfl) h3
  have z1 : a1.size ≤ 140737488351232 := sized_string hsz (j := 1) (t := 9) rfl rfl
  clear hA0 hval0 hsz0
  refine (rback_walk bt0 A0 c0 a1 a2 a3 W hg br0 (by have := w3; simp only [Lit.wf, Bool.and_eq_true, decide_eq_true_eq] at this; exact this.2)).mono fun e W' ⟨he, bel⟩ => ?_
  subst he
  exact ⟨_, rfl, _, _, _, [], _, [], hW', trodAll_mk1 (shut_bool Tryd.underlying4 _), (trodAll_cons_mk (Below.trod laidOut (by kernel_rfl) (of_decide_eq_true (by kernel_rfl)) k0 bel lt0) (trodAll_cons_mk (shut_string Tryd.underlying9 w1) (trodAll_cons_mk (shut_int Tryd.underlying3 w2) (trodAll_cons_mk (shut_int Tryd.underlying3 w3) trodAll_mk0)))), rfl, bel.frame _, fun h => by cases h⟩

theorem said : Rows.RecordBackSaid :=
  OpenClaim.holds_of_cond 9 Tryd.f9 rfl rfl rfl rfl rfl rfl rfl ⟨rfl, rfl, rfl, rfl, rfl⟩ rfl rfl rfl rfl rfl (by kernel_rfl) Tryd.func9 (by kernel_rfl)
    (of_decide_eq_true (by kernel_rfl)) (by unfold Func.isWrapper; first | (rw [if_pos (by decide +kernel)]; kernel_rfl) | (rw [if_neg (by decide +kernel)]; exact ⟨rfl, rfl⟩))
    (fun os started H enc _ F => by rw [OpenClaim.pre_eq_preRow]; exact lifted os started H enc F)

theorem plain (f : FuncId) (fn : Func) (hf : Tryd.pinned.checked.prog.funcNamed "roving/rovinglaw06.RecordBack" = some f) (hfn : Tryd.pinned.checked.prog.funcs[f]? = some fn) :
    true = Tryd.pinned.checked.prog.looks [] ∧ ∀ (j : Nat) t, fn.params[j]? = some t → Tryd.pinned.checked.prog.wantsStandIn t = false := by
  obtain rfl : f = 9 := Option.some.inj ((show Tryd.prog.funcNamed "roving/rovinglaw06.RecordBack" = some 9 by kernel_rfl).symm.trans hf) |>.symm
  obtain rfl : fn = Tryd.f9 := (Option.some.inj (Tryd.func9.symm.trans hfn)).symm
  refine ⟨by kernel_rfl, fun j t ht => ?_⟩
  rw [Tryd.params9] at ht
  have hm : t = 40 ∨ t = 9 ∨ t = 3 ∨ t = 3 := by simpa using Array.mem_of_getElem? ht
  rcases hm with rfl | rfl | rfl | rfl <;> exact (show Tryd.prog.wantsStandIn _ = false by kernel_rfl)

/-- THE CARD. -/
theorem card : Rows.RecordBackCardSaid :=
  Claim7.holds_tied_plain_at .later [] _ _ _ _ said (fun _ h => by cases h) (by kernel_rfl) (fun _ h => by cases h) recordBack_row_tie rfl ⟨rfl, rfl⟩ (by kernel_rfl) rfl plain (by kernel_rfl)
end Go.Proofs.YtcockikekgmfkaaDoor.recordBack
