/-
  Arguments that are structs and slices of structs, opened. (After the guide's page on structs.)
  The document's Bytes of a request, kind 8.
  The document's Bytes of a request, kind 9.
  The document's Bytes of a request, of any kind.
  The document's Changes.
-/
import Derived.Test.YtcockikekgmfkaaGreatDoorGrp29
import Derived.Test.YtcockikekgmfkaaGreatDoorGrp30
import Derived.Test.YtcockikekgmfkaaGreatDoorGrp27
import Derived.Deep.Slices
import Derived.Deep.Fields
import Derived.ChangeSame
import Derived.Lib.SmallJoins
set_option linter.unusedVariables false
set_option linter.unusedSimpArgs false
namespace Go.Proofs.YtcockikekgmfkaaGreatDoor
open Go.RowKit

set_option maxRecDepth 100000 in
set_option maxHeartbeats 4000000 in
theorem rrBytes_8 (q : Rq) (hk : q.kd = 8) (A1 : Option Addr) (c1 : Nat) (w : World) (hr : Reads w w.heap.size 2 A1 q.b.rs.length (cellsR q.b.rs)) (hm : mayRq q) (hl : q.b.rs.length ≤ 1000000) :
    Calls Tryz.prog 8 #[(.agg #[.int .i8 q.kd, .int .i64 q.tid, .int .i64 q.tm, .int .i64 q.pid, .int .i64 q.ep, .int .i64 q.part, .int .i64 q.grp, .int .i64 q.off, .int .i64 q.most, .bool q.yes, .int .i64 q.b.pid, .int .i64 q.b.ep, .int .i64 q.b.seq, .bool q.b.txn, .slice A1 q.b.rs.length c1])] w (BytesPost (encRq q) 0 w) := by
  have HR := Lib.hid (fun W (h : Below w.heap.size w W) => (hr.below h).more h.size)
  have hv := ((may8_8 q hk).1 hm).1
  obtain ⟨g0, g1⟩ := hv
  have r0 : 0 ≤ q.part ∧ q.part ≤ 1048576 := by have h := of_decide_eq_true g0; omega
  have r1 : 0 ≤ q.off ∧ q.off ≤ 1048576 := by have h := of_decide_eq_true g1; omega
  have rk : 0 ≤ q.kd ∧ q.kd ≤ 1048576 := by omega
  have cv : IntKind.i64.wrap q.kd = q.kd := IntWalk.i64_in _ (by omega)
  have hen : encRq q = enc q.kd.toNat ++ eFs cF [.part, .off] q.get := by unfold encRq; rw [show flOf q.kd = [.part, .off] by rw [hk]; rfl]
  have cc1 : (q.kd == 1) = false := by rw [hk]; rfl
  have cc2 : (q.kd == 2) = false := by rw [hk]; rfl
  have cc3 : (q.kd == 3) = false := by rw [hk]; rfl
  have cc4 : (q.kd == 4) = false := by rw [hk]; rfl
  have cc5 : (q.kd == 5) = false := by rw [hk]; rfl
  have cc6 : (q.kd == 6) = false := by rw [hk]; rfl
  have cc7 : (q.kd == 7) = false := by rw [hk]; rfl
  have cc8 : (q.kd == 8) = true := by rw [hk]; rfl
  have K0 := Lib.hid (Blk.new w 27 #[.int .i8 q.kd, .int .i64 q.tid, .int .i64 q.tm, .int .i64 q.pid, .int .i64 q.ep, .int .i64 q.part, .int .i64 q.grp, .int .i64 q.off, .int .i64 q.most, .bool q.yes, .int .i64 q.b.pid, .int .i64 q.b.ep, .int .i64 q.b.seq, .bool q.b.txn, .slice A1 q.b.rs.length c1])
  have B0 := Lib.hid (bal (Below.refl w.heap.size w) (.cells #[.int .i8 q.kd, .int .i64 q.tid, .int .i64 q.tm, .int .i64 q.pid, .int .i64 q.ep, .int .i64 q.part, .int .i64 q.grp, .int .i64 q.off, .int .i64 q.most, .bool q.yes, .int .i64 q.b.pid, .int .i64 q.b.ep, .int .i64 q.b.seq, .bool q.b.txn, .slice A1 q.b.rs.length c1] 27))
  have MY := Lib.hid (rrMay_ok q A1 c1 _ (HR.out _ B0.out) hl hm)
  have HEN := Lib.hid hen
  clear hr hm hk hen g0 g1
  go_enter Tryz.func8, Tryz.ntmps8
  go_wp2_with fail
  refine MY.out.mono ?_
  rintro e w1 ⟨rfl, b1⟩
  have KB1 := Lib.hid (K0.out.below b1 (by simp))
  have BE1 := Lib.hid (btrans B0.out b1)
  clear b1
  have x0 := KB1.out.cell 0
  have nm := numbers_any none ([] : List UInt8) 0 (some ⟨w1.heap.size, 0, none⟩) [q.kd] 1 (w1.alloc (.cells #[.int .i64 q.kd] 3)) Reads.none_ (Reads.of_own (own_newN w1 3 #[.int .i64 q.kd] (by unfold maxLen; simp))) (by intro n hn; simp only [List.mem_cons, List.not_mem_nil, or_false] at hn; rcases hn with rfl <;> omega) (by decide) (by simp) (Nat.le_refl _)
  obtain ⟨L2, hL2⟩ : ∃ L, ([] : List UInt8) ++ encs [q.kd] = L := ⟨_, rfl⟩
  rw [hL2] at nm
  have NM2 := Lib.hid nm
  have ln2 : L2.length ≤ 80 := by
    rw [← hL2, List.length_append]
    have h := encs_len [q.kd] (by intro n hn; simp only [List.mem_cons, List.not_mem_nil, or_false] at hn; rcases hn with rfl <;> omega)
    simp only [List.length_cons, List.length_nil] at h ⊢
    omega
  have HL2 := Lib.hid hL2
  clear nm hL2
  go_wp2_with fail
  refine NM2.out.mono ?_
  rintro e w2 ⟨A12, c12, rfl, r, hc, b⟩
  have KB2 := Lib.hid ((KB1.out.alloc _).below b (by have := KB1.out.lt; simp; omega))
  have BE2 := Lib.hid (btrans (bal BE1.out _) b)
  have RR2 := Lib.hid r
  have HC2 := Lib.hid hc
  clear r hc b NM2 x0
  have x0 := KB2.out.cell 0
  have x5 := KB2.out.cell 5
  have x7 := KB2.out.cell 7
  have nm := numbers_any A12 L2 c12 (some ⟨w2.heap.size, 0, none⟩) [q.part, q.off] 2 (w2.alloc (.cells #[.int .i64 q.part, .int .i64 q.off] 3)) ((RR2.out.alloc (Nat.le_refl _) _).more (by simp)) (Reads.of_own (own_newN w2 3 #[.int .i64 q.part, .int .i64 q.off] (by unfold maxLen; simp))) (by intro n hn; simp only [List.mem_cons, List.not_mem_nil, or_false] at hn; rcases hn with rfl | rfl <;> omega) (by omega) (by simp) HC2.out
  obtain ⟨L3, hL3⟩ : ∃ L, L2 ++ encs [q.part, q.off] = L := ⟨_, rfl⟩
  rw [hL3] at nm
  have NM3 := Lib.hid nm
  have ln3 : L3.length ≤ 120 := by
    rw [← hL3, List.length_append]
    have h := encs_len [q.part, q.off] (by intro n hn; simp only [List.mem_cons, List.not_mem_nil, or_false] at hn; rcases hn with rfl | rfl <;> omega)
    simp only [List.length_cons, List.length_nil] at h ⊢
    omega
  have HL3 := Lib.hid hL3
  clear nm hL3
  go_wp2_with fail
  refine NM3.out.mono ?_
  rintro e w3 ⟨A13, c13, rfl, r, hc, b⟩
  have KB3 := Lib.hid ((KB2.out.alloc _).below b (by have := KB2.out.lt; simp; omega))
  have BE3 := Lib.hid (btrans (bal BE2.out _) b)
  have RR3 := Lib.hid r
  have HC3 := Lib.hid hc
  clear r hc b NM3 x0 x5 x7
  have xx := KB3.out.cell 0
  go_wp2_with fail
  go_ret2
  have e : L3 = encRq q := by
    rw [HEN.out, ← HL3.out, ← HL2.out]
    show (([] ++ (enc q.kd.toNat ++ [])) ++ (enc q.part.toNat ++ (enc q.off.toNat ++ []))) = enc q.kd.toNat ++ (enc q.part.toNat ++ (enc q.off.toNat ++ []))
    simp only [List.nil_append, List.append_nil, List.append_assoc]
  rw [← e]
  exact ⟨A13, c13, rfl, RR3.out, HC3.out, BE3.out⟩
end Go.Proofs.YtcockikekgmfkaaGreatDoor
namespace Go.Proofs.YtcockikekgmfkaaGreatDoor
open Go.RowKit

set_option maxRecDepth 100000 in
set_option maxHeartbeats 4000000 in
theorem rrBytes_9 (q : Rq) (hk : q.kd = 9) (A1 : Option Addr) (c1 : Nat) (w : World) (hr : Reads w w.heap.size 2 A1 q.b.rs.length (cellsR q.b.rs)) (hm : mayRq q) (hl : q.b.rs.length ≤ 1000000) :
    Calls Tryz.prog 8 #[(.agg #[.int .i8 q.kd, .int .i64 q.tid, .int .i64 q.tm, .int .i64 q.pid, .int .i64 q.ep, .int .i64 q.part, .int .i64 q.grp, .int .i64 q.off, .int .i64 q.most, .bool q.yes, .int .i64 q.b.pid, .int .i64 q.b.ep, .int .i64 q.b.seq, .bool q.b.txn, .slice A1 q.b.rs.length c1])] w (BytesPost (encRq q) 0 w) := by
  have HR := Lib.hid (fun W (h : Below w.heap.size w W) => (hr.below h).more h.size)
  have hv := ((may8_9 q hk).1 hm).1
  have rk : 0 ≤ q.kd ∧ q.kd ≤ 1048576 := by omega
  have cv : IntKind.i64.wrap q.kd = q.kd := IntWalk.i64_in _ (by omega)
  have hen : encRq q = enc q.kd.toNat ++ eFs cF [] q.get := by unfold encRq; rw [show flOf q.kd = [] by rw [hk]; rfl]
  have cc1 : (q.kd == 1) = false := by rw [hk]; rfl
  have cc2 : (q.kd == 2) = false := by rw [hk]; rfl
  have cc3 : (q.kd == 3) = false := by rw [hk]; rfl
  have cc4 : (q.kd == 4) = false := by rw [hk]; rfl
  have cc5 : (q.kd == 5) = false := by rw [hk]; rfl
  have cc6 : (q.kd == 6) = false := by rw [hk]; rfl
  have cc7 : (q.kd == 7) = false := by rw [hk]; rfl
  have cc8 : (q.kd == 8) = false := by rw [hk]; rfl
  have K0 := Lib.hid (Blk.new w 27 #[.int .i8 q.kd, .int .i64 q.tid, .int .i64 q.tm, .int .i64 q.pid, .int .i64 q.ep, .int .i64 q.part, .int .i64 q.grp, .int .i64 q.off, .int .i64 q.most, .bool q.yes, .int .i64 q.b.pid, .int .i64 q.b.ep, .int .i64 q.b.seq, .bool q.b.txn, .slice A1 q.b.rs.length c1])
  have B0 := Lib.hid (bal (Below.refl w.heap.size w) (.cells #[.int .i8 q.kd, .int .i64 q.tid, .int .i64 q.tm, .int .i64 q.pid, .int .i64 q.ep, .int .i64 q.part, .int .i64 q.grp, .int .i64 q.off, .int .i64 q.most, .bool q.yes, .int .i64 q.b.pid, .int .i64 q.b.ep, .int .i64 q.b.seq, .bool q.b.txn, .slice A1 q.b.rs.length c1] 27))
  have MY := Lib.hid (rrMay_ok q A1 c1 _ (HR.out _ B0.out) hl hm)
  have HEN := Lib.hid hen
  clear hr hm hk hen hv
  go_enter Tryz.func8, Tryz.ntmps8
  go_wp2_with fail
  refine MY.out.mono ?_
  rintro e w1 ⟨rfl, b1⟩
  have KB1 := Lib.hid (K0.out.below b1 (by simp))
  have BE1 := Lib.hid (btrans B0.out b1)
  clear b1
  have x0 := KB1.out.cell 0
  have nm := numbers_any none ([] : List UInt8) 0 (some ⟨w1.heap.size, 0, none⟩) [q.kd] 1 (w1.alloc (.cells #[.int .i64 q.kd] 3)) Reads.none_ (Reads.of_own (own_newN w1 3 #[.int .i64 q.kd] (by unfold maxLen; simp))) (by intro n hn; simp only [List.mem_cons, List.not_mem_nil, or_false] at hn; rcases hn with rfl <;> omega) (by decide) (by simp) (Nat.le_refl _)
  obtain ⟨L2, hL2⟩ : ∃ L, ([] : List UInt8) ++ encs [q.kd] = L := ⟨_, rfl⟩
  rw [hL2] at nm
  have NM2 := Lib.hid nm
  have ln2 : L2.length ≤ 80 := by
    rw [← hL2, List.length_append]
    have h := encs_len [q.kd] (by intro n hn; simp only [List.mem_cons, List.not_mem_nil, or_false] at hn; rcases hn with rfl <;> omega)
    simp only [List.length_cons, List.length_nil] at h ⊢
    omega
  have HL2 := Lib.hid hL2
  clear nm hL2
  go_wp2_with fail
  refine NM2.out.mono ?_
  rintro e w2 ⟨A12, c12, rfl, r, hc, b⟩
  have KB2 := Lib.hid ((KB1.out.alloc _).below b (by have := KB1.out.lt; simp; omega))
  have BE2 := Lib.hid (btrans (bal BE1.out _) b)
  have RR2 := Lib.hid r
  have HC2 := Lib.hid hc
  clear r hc b NM2 x0
  have xx := KB2.out.cell 0
  go_wp2_with fail
  go_ret2
  have e : L2 = encRq q := by
    rw [HEN.out, ← HL2.out]
    show ([] ++ (enc q.kd.toNat ++ [])) = enc q.kd.toNat ++ []
    simp only [List.nil_append, List.append_nil, List.append_assoc]
  rw [← e]
  exact ⟨A12, c12, rfl, RR2.out, HC2.out, BE2.out⟩
end Go.Proofs.YtcockikekgmfkaaGreatDoor
namespace Go.Proofs.YtcockikekgmfkaaGreatDoor
open Go.RowKit

theorem rrBytes_ok (q : Rq) (A1 : Option Addr) (c1 : Nat) (w : World) (hr : Reads w w.heap.size 2 A1 q.b.rs.length (cellsR q.b.rs)) (hl : q.b.rs.length ≤ 1000000) (hm : mayRq q) :
    Calls Tryz.prog 8 #[(.agg #[.int .i8 q.kd, .int .i64 q.tid, .int .i64 q.tm, .int .i64 q.pid, .int .i64 q.ep, .int .i64 q.part, .int .i64 q.grp, .int .i64 q.off, .int .i64 q.most, .bool q.yes, .int .i64 q.b.pid, .int .i64 q.b.ep, .int .i64 q.b.seq, .bool q.b.txn, .slice A1 q.b.rs.length c1])] w (BytesPost (encRq q) 0 w) := by
  have hk := hm.1
  have hh : q.kd = 0 ∨ q.kd = 1 ∨ q.kd = 2 ∨ q.kd = 3 ∨ q.kd = 4 ∨ q.kd = 5 ∨ q.kd = 6 ∨ q.kd = 7 ∨ q.kd = 8 ∨ q.kd = 9 := by omega
  rcases hh with h | h | h | h | h | h | h | h | h | h
  · exact rrBytes_0 q h A1 c1 w hr hm hl
  · exact rrBytes_1 q h A1 c1 w hr hm hl
  · exact rrBytes_2 q h A1 c1 w hr hm hl
  · exact rrBytes_3 q h A1 c1 w hr hm hl
  · exact rrBytes_4 q h A1 c1 w hr hm hl
  · exact rrBytes_5 q h A1 c1 w hr hm hl
  · exact rrBytes_6 q h A1 c1 w hr hm hl
  · exact rrBytes_7 q h A1 c1 w hr hm hl
  · exact rrBytes_8 q h A1 c1 w hr hm hl
  · exact rrBytes_9 q h A1 c1 w hr hm hl
set_option maxRecDepth 100000 in
set_option maxHeartbeats 4000000 in
theorem rrBytes_no (q : Rq) (A1 : Option Addr) (c1 : Nat) (w : World) (hr : Reads w w.heap.size 2 A1 q.b.rs.length (cellsR q.b.rs)) (hl : q.b.rs.length ≤ 1000000) (hm : ¬ mayRq q) :
    Calls Tryz.prog 8 #[(.agg #[.int .i8 q.kd, .int .i64 q.tid, .int .i64 q.tm, .int .i64 q.pid, .int .i64 q.ep, .int .i64 q.part, .int .i64 q.grp, .int .i64 q.off, .int .i64 q.most, .bool q.yes, .int .i64 q.b.pid, .int .i64 q.b.ep, .int .i64 q.b.seq, .bool q.b.txn, .slice A1 q.b.rs.length c1])] w (BytesPost [] 2 w) := by
  have B0 := Lib.hid (bal (Below.refl w.heap.size w) (.cells #[.int .i8 q.kd, .int .i64 q.tid, .int .i64 q.tm, .int .i64 q.pid, .int .i64 q.ep, .int .i64 q.part, .int .i64 q.grp, .int .i64 q.off, .int .i64 q.most, .bool q.yes, .int .i64 q.b.pid, .int .i64 q.b.ep, .int .i64 q.b.seq, .bool q.b.txn, .slice A1 q.b.rs.length c1] 27))
  have MY := Lib.hid (rrMay_no q A1 c1 _ ((hr.below B0.out).more B0.out.size) hl hm)
  clear hr hm hl
  go_enter Tryz.func8, Tryz.ntmps8
  go_wp2_with fail
  refine MY.out.mono ?_
  rintro e w1 ⟨rfl, b1⟩
  have BE1 := Lib.hid (btrans B0.out b1)
  clear b1
  go_wp2_with fail
  go_ret2
  exact ⟨none, 0, rfl, Reads.none_, Nat.le_refl _, BE1.out⟩
end Go.Proofs.YtcockikekgmfkaaGreatDoor
namespace Go.Proofs.YtcockikekgmfkaaGreatDoor
open Go.RowKit

theorem rrChanges_any (k : Int) (w : World) : Calls Tryz.prog 14 #[.int .i8 k] w fun e w' => e = .returned (.bool (changes k)) ∧ w = w' := by
  have key : changes k = (decide (0 ≤ k) && (decide (k ≤ 9) && ((k != 5) && (k != 7)))) := by
    unfold changes
    rw [Bool.eq_iff_iff]; simp
  rw [key]
  by_cases h0 : 0 ≤ k
  · by_cases h1 : k ≤ 9
    · by_cases h2 : k = 5
      · have e0 : decide (0 ≤ k) = true := decide_eq_true h0
        have e1 : decide (k ≤ 9) = true := decide_eq_true h1
        have e2 : (k != 5) = false := ne_false h2
        clear h0 h1 h2 key
        go_enter Tryz.func14, Tryz.ntmps14
        go_wp2_with fail
        go_ret
        exact ⟨by rw [e2]; simp, rfl⟩
      · by_cases h3 : k = 7
        · have e0 : decide (0 ≤ k) = true := decide_eq_true h0
          have e1 : decide (k ≤ 9) = true := decide_eq_true h1
          have e2 : (k != 5) = true := ne_true h2
          have e3 : (k != 7) = false := ne_false h3
          clear h0 h1 h2 h3 key
          go_enter Tryz.func14, Tryz.ntmps14
          go_wp2_with fail
          go_ret
          exact ⟨by rw [e3]; simp, rfl⟩
        · have e0 : decide (0 ≤ k) = true := decide_eq_true h0
          have e1 : decide (k ≤ 9) = true := decide_eq_true h1
          have e2 : (k != 5) = true := ne_true h2
          have e3 : (k != 7) = true := ne_true h3
          clear h0 h1 h2 h3 key
          go_enter Tryz.func14, Tryz.ntmps14
          go_wp2_with fail
          go_ret
          exact ⟨by rw [e0, e1, e2, e3]; rfl, rfl⟩
    · have e0 : decide (0 ≤ k) = true := decide_eq_true h0
      have e1 : decide (k ≤ 9) = false := decide_eq_false h1
      clear h0 h1 key
      go_enter Tryz.func14, Tryz.ntmps14
      go_wp2_with fail
      go_ret
      exact ⟨by rw [e1]; simp, rfl⟩
  · have e0 : decide (0 ≤ k) = false := decide_eq_false h0
    clear h0 key
    go_enter Tryz.func14, Tryz.ntmps14
    go_wp2_with fail
    go_ret
    exact ⟨by rw [e0]; rfl, rfl⟩
end Go.Proofs.YtcockikekgmfkaaGreatDoor
namespace Go.Proofs.YtcockikekgmfkaaGreatDoor
open Go.Joins Go.ChangeShapes Go.WideShapes Go.RowKit Go.Deep

section
variable {H : Type} {enc : TypeId × Value → H} {P : Program} {w : World} {base : Nat} {spare : Nat → Bool} {held : Bool}
theorem open_agg5 {r : Reach} {b0 : Nat} {t : TypeId} {f0 f1 f2 f3 f4 : Field} {v : Value} {d : DataW H} {p : List MemPlace} (hs : P.underlying t = some (.struct #[f0, f1, f2, f3, f4])) (hone : oneCellFields P #[f0, f1, f2, f3, f4] = true) (hC : P.cellsOf t = 5)
    (hv : Value.okWide P w r b0 t v) (h : DataW.Trod enc P w base spare held t v d p) :
    ∃ (v0 v1 v2 v3 v4 : Value) (y0 y1 y2 y3 y4 : DataW H × List MemPlace) (n : Nat), v = .agg #[v0, v1, v2, v3, v4] ∧ d = .agg [y0.1, y1.1, y2.1, y3.1, y4.1] ∧ p = y0.2 ++ (y1.2 ++ (y2.2 ++ (y3.2 ++ (y4.2)))) ∧
      DataW.trod enc P w base spare held n f0.type [v0] = some y0 ∧ DataW.trod enc P w base spare held n f1.type [v1] = some y1 ∧ DataW.trod enc P w base spare held n f2.type [v2] = some y2 ∧ DataW.trod enc P w base spare held n f3.type [v3] = some y3 ∧ DataW.trod enc P w base spare held n f4.type [v4] = some y4 := by
  obtain ⟨cs, rfl, hsz⟩ := okWide_struct hs hv
  obtain ⟨l⟩ := cs
  match l, hsz.trans hC with
  | [c0, c1, c2, c3, c4], _ =>
    obtain ⟨fuel, hf⟩ := h
    obtain ⟨xs, n, _, hx, _, hlen, hg⟩ := DataW.trod_struct hs hf
    obtain ⟨o0, k0⟩ := hone_of hone 0 f0 rfl
    obtain ⟨o1, k1⟩ := hone_of hone 1 f1 rfl
    obtain ⟨o2, k2⟩ := hone_of hone 2 f2 rfl
    obtain ⟨o3, k3⟩ := hone_of hone 3 f3 rfl
    obtain ⟨o4, k4⟩ := hone_of hone 4 f4 rfl
    match xs, hlen with
    | [y0, y1, y2, y3, y4], _ =>
      simp only [Prod.mk.injEq] at hx
      exact ⟨c0, c1, c2, c3, c4, y0, y1, y2, y3, y4, n, rfl, by simpa using hx.1, by simpa using hx.2, by simpa [Value.cells, o0, k0] using hg 0 f0 rfl, by simpa [Value.cells, o1, k1] using hg 1 f1 rfl, by simpa [Value.cells, o2, k2] using hg 2 f2 rfl, by simpa [Value.cells, o3, k3] using hg 3 f3 rfl, by simpa [Value.cells, o4, k4] using hg 4 f4 rfl⟩

theorem open_agg3 {r : Reach} {b0 : Nat} {t : TypeId} {f0 f1 f2 : Field} {v : Value} {d : DataW H} {p : List MemPlace} (hs : P.underlying t = some (.struct #[f0, f1, f2])) (hone : oneCellFields P #[f0, f1, f2] = true) (hC : P.cellsOf t = 3)
    (hv : Value.okWide P w r b0 t v) (h : DataW.Trod enc P w base spare held t v d p) :
    ∃ (v0 v1 v2 : Value) (y0 y1 y2 : DataW H × List MemPlace) (n : Nat), v = .agg #[v0, v1, v2] ∧ d = .agg [y0.1, y1.1, y2.1] ∧ p = y0.2 ++ (y1.2 ++ (y2.2)) ∧
      DataW.trod enc P w base spare held n f0.type [v0] = some y0 ∧ DataW.trod enc P w base spare held n f1.type [v1] = some y1 ∧ DataW.trod enc P w base spare held n f2.type [v2] = some y2 := by
  obtain ⟨cs, rfl, hsz⟩ := okWide_struct hs hv
  obtain ⟨l⟩ := cs
  match l, hsz.trans hC with
  | [c0, c1, c2], _ =>
    obtain ⟨fuel, hf⟩ := h
    obtain ⟨xs, n, _, hx, _, hlen, hg⟩ := DataW.trod_struct hs hf
    obtain ⟨o0, k0⟩ := hone_of hone 0 f0 rfl
    obtain ⟨o1, k1⟩ := hone_of hone 1 f1 rfl
    obtain ⟨o2, k2⟩ := hone_of hone 2 f2 rfl
    match xs, hlen with
    | [y0, y1, y2], _ =>
      simp only [Prod.mk.injEq] at hx
      exact ⟨c0, c1, c2, y0, y1, y2, n, rfl, by simpa using hx.1, by simpa using hx.2, by simpa [Value.cells, o0, k0] using hg 0 f0 rfl, by simpa [Value.cells, o1, k1] using hg 1 f1 rfl, by simpa [Value.cells, o2, k2] using hg 2 f2 rfl⟩

theorem open_slice_fields {t e : TypeId} {fs : Array Field} {fuel : Nat} {cs : List Value} {x : DataW H × List MemPlace} (ht : P.underlying t = some (.slice e)) (he : P.underlying e = some (.struct fs))
    (hone : oneCellFields P fs = true) (hC : P.cellsOf e = fs.size) (h : DataW.trod enc P w base spare held fuel t cs = some x) :
    (cs = [.slice none 0 0] ∧ x = (.nil, [])) ∨
    ∃ (a : Addr) (len cap m : Nat) (D : Nat → DataW H) (Pl : Nat → List MemPlace), cs = [.slice (some a) len cap] ∧ base ≤ a.block ∧ len ≤ cap ∧ cap ≤ maxLen ∧ m = (if spare a.block then cap else len) ∧
      x = (.slice ((List.range len).map D) ((List.range (m - len)).map fun j => D (len + j)), MemPlace.row a (m * fs.size) ++ (List.range m).flatMap Pl) ∧
      ∀ i, i < m → ∃ (ys : List (DataW H × List MemPlace)) (n : Nat), D i = .agg (ys.map (·.1)) ∧ Pl i = ys.flatMap (·.2) ∧ ys.length = fs.size ∧
        ∀ (j : Nat) (f : Field), fs[j]? = some f → ∃ (v : Value) (y : DataW H × List MemPlace), w.cell? (a.add (i * fs.size + j)) = some v ∧ ys[j]? = some y ∧ DataW.trod enc P w base spare held n f.type [v] = some y := by
  rcases open_slice ht h with h0 | ⟨a, len, cap, m, n, D, Pl, hcs, hb, hl, hm, hmm, hx, hi⟩
  · exact .inl h0
  · refine .inr ⟨a, len, cap, m, D, Pl, hcs, hb, hl, hm, hmm, by rw [hC] at hx; exact hx, fun i him => ?_⟩
    obtain ⟨cs', hc, ht'⟩ := hi i him
    rw [hC] at hc
    obtain ⟨ys, n', hn', hy, hlen, hyl, hf⟩ := DataW.trod_struct he ht'
    obtain ⟨_, hcl, hat⟩ := World.cells?_some hc
    simp only [Prod.mk.injEq] at hy
    refine ⟨ys, n', hy.1, hy.2, hyl, fun j f hj => ?_⟩
    obtain ⟨ho, hk⟩ := hone_of hone j f hj
    have hjl : j < fs.size := (Array.getElem?_eq_some_iff.1 hj).1
    have hcell := hat j hjl
    have hv : cs'[j]? = some (cs'[j]'(by omega)) := List.getElem?_eq_getElem (by omega)
    have h1 := hf j f hj
    rw [ho, hk] at h1
    have hone' : (cs'.drop j).take 1 = [cs'[j]'(by omega)] := by
      rw [List.drop_eq_getElem_cons (by omega)]
      rfl
    rw [hone'] at h1
    have hys : ys[j]? = some (ys[j]'(by omega)) := List.getElem?_eq_getElem (by omega)
    refine ⟨_, _, ?_, hys, h1.trans hys⟩
    rw [← Go.Deep.add_add, hcell, hv]
end

section
variable {H : Type} {enc : TypeId × Value → H} {W : World}
theorem cell_block {a : Addr} {k : Nat} {v : Value} (h : W.cell? (a.add k) = some v) : a.block < W.heap.size := by
  have := block_lt_of_cell h
  rwa [block_of_add] at this
end
end Go.Proofs.YtcockikekgmfkaaGreatDoor
