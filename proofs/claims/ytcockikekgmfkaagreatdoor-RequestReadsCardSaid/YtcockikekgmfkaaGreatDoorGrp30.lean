/-
  The document's Bytes of a request, kind 7.
  The document's Bytes of a request, kind 3.
  The document's Bytes of a request, kind 4.
  The document's Bytes of a request, kind 5.
  The document's Bytes of a request, kind 6.
-/
import Derived.Test.YtcockikekgmfkaaGreatDoorGrp29
set_option linter.unusedVariables false
set_option linter.unusedSimpArgs false
namespace Go.Proofs.YtcockikekgmfkaaGreatDoor
open Go.RowKit

set_option maxRecDepth 100000 in
set_option maxHeartbeats 4000000 in
theorem rrBytes_3 (q : Rq) (hk : q.kd = 3) (A1 : Option Addr) (c1 : Nat) (w : World) (hr : Reads w w.heap.size 2 A1 q.b.rs.length (cellsR q.b.rs)) (hm : mayRq q) (hl : q.b.rs.length ≤ 1000000) :
    Calls Tryz.prog 8 #[(.agg #[.int .i8 q.kd, .int .i64 q.tid, .int .i64 q.tm, .int .i64 q.pid, .int .i64 q.ep, .int .i64 q.part, .int .i64 q.grp, .int .i64 q.off, .int .i64 q.most, .bool q.yes, .int .i64 q.b.pid, .int .i64 q.b.ep, .int .i64 q.b.seq, .bool q.b.txn, .slice A1 q.b.rs.length c1])] w (BytesPost (encRq q) 0 w) := by
  have HR := Lib.hid (fun W (h : Below w.heap.size w W) => (hr.below h).more h.size)
  have hv := ((may8_3 q hk).1 hm).1
  obtain ⟨g0, g1, g2, g3, g4⟩ := hv
  have r0 : 0 ≤ q.pid ∧ q.pid ≤ 1048576 := by have h := of_decide_eq_true g0; omega
  have r1 : 0 ≤ q.ep ∧ q.ep ≤ 1048576 := by have h := of_decide_eq_true g1; omega
  have r2 : 0 ≤ q.grp ∧ q.grp ≤ 1048576 := by have h := of_decide_eq_true g2; omega
  have r3 : 0 ≤ q.part ∧ q.part ≤ 1048576 := by have h := of_decide_eq_true g3; omega
  have r4 : 0 ≤ q.off ∧ q.off ≤ 1048576 := by have h := of_decide_eq_true g4; omega
  have rk : 0 ≤ q.kd ∧ q.kd ≤ 1048576 := by omega
  have cv : IntKind.i64.wrap q.kd = q.kd := IntWalk.i64_in _ (by omega)
  have hen : encRq q = enc q.kd.toNat ++ eFs cF [.pid, .ep, .grp, .part, .off] q.get := by unfold encRq; rw [show flOf q.kd = [.pid, .ep, .grp, .part, .off] by rw [hk]; rfl]
  have cc1 : (q.kd == 1) = false := by rw [hk]; rfl
  have cc2 : (q.kd == 2) = false := by rw [hk]; rfl
  have cc3 : (q.kd == 3) = true := by rw [hk]; rfl
  have K0 := Lib.hid (Blk.new w 27 #[.int .i8 q.kd, .int .i64 q.tid, .int .i64 q.tm, .int .i64 q.pid, .int .i64 q.ep, .int .i64 q.part, .int .i64 q.grp, .int .i64 q.off, .int .i64 q.most, .bool q.yes, .int .i64 q.b.pid, .int .i64 q.b.ep, .int .i64 q.b.seq, .bool q.b.txn, .slice A1 q.b.rs.length c1])
  have B0 := Lib.hid (bal (Below.refl w.heap.size w) (.cells #[.int .i8 q.kd, .int .i64 q.tid, .int .i64 q.tm, .int .i64 q.pid, .int .i64 q.ep, .int .i64 q.part, .int .i64 q.grp, .int .i64 q.off, .int .i64 q.most, .bool q.yes, .int .i64 q.b.pid, .int .i64 q.b.ep, .int .i64 q.b.seq, .bool q.b.txn, .slice A1 q.b.rs.length c1] 27))
  have MY := Lib.hid (rrMay_ok q A1 c1 _ (HR.out _ B0.out) hl hm)
  have HEN := Lib.hid hen
  clear hr hm hk hen g0 g1 g2 g3 g4
  go_enter Tryz.func8, Tryz.ntmps8
  go_wp2_with fail
  refine MY.out.mono ?_
  rintro e w1 ⟨rfl, b1⟩
  have KB1 := Lib.hid (K0.out.below b1 (by simp))
  have BE1 := Lib.hid (btrans B0.out b1)
  clear b1
  have x0 := KB1.out.cell 0
  have nm := numbers_any none ([] : List UInt8) 0 (some ⟨w1.heap.size, 0, none⟩) [q.kd] 1 (w1.alloc (.cells #[.int .i64 q.kd] 3)) Reads.none_ (Reads.of_own (own_newN w1 3 #[.int .i64 q.kd] (by unfold maxLen; simp))) (by intro n hn; simp only [List.mem_cons, List.not_mem_nil, or_false] at hn; rcases hn with rfl <;> omega) (by decide) (by simp) (Nat.le_refl _)
  obtain ⟨L2, hL2⟩ : ∃ L, ([] : List UInt8) ++ encs [q.kd] = L := ⟨_, rfl⟩
  rw [hL2] at nm
  have NM2 := Lib.hid nm
  have ln2 : L2.length ≤ 80 := by
    rw [← hL2, List.length_append]
    have h := encs_len [q.kd] (by intro n hn; simp only [List.mem_cons, List.not_mem_nil, or_false] at hn; rcases hn with rfl <;> omega)
    simp only [List.length_cons, List.length_nil] at h ⊢
    omega
  have HL2 := Lib.hid hL2
  clear nm hL2
  go_wp2_with fail
  refine NM2.out.mono ?_
  rintro e w2 ⟨A12, c12, rfl, r, hc, b⟩
  have KB2 := Lib.hid ((KB1.out.alloc _).below b (by have := KB1.out.lt; simp; omega))
  have BE2 := Lib.hid (btrans (bal BE1.out _) b)
  have RR2 := Lib.hid r
  have HC2 := Lib.hid hc
  clear r hc b NM2 x0
  have x0 := KB2.out.cell 0
  have x3 := KB2.out.cell 3
  have x4 := KB2.out.cell 4
  have x6 := KB2.out.cell 6
  have x5 := KB2.out.cell 5
  have x7 := KB2.out.cell 7
  have nm := numbers_any A12 L2 c12 (some ⟨w2.heap.size, 0, none⟩) [q.pid, q.ep, q.grp, q.part, q.off] 5 (w2.alloc (.cells #[.int .i64 q.pid, .int .i64 q.ep, .int .i64 q.grp, .int .i64 q.part, .int .i64 q.off] 3)) ((RR2.out.alloc (Nat.le_refl _) _).more (by simp)) (Reads.of_own (own_newN w2 3 #[.int .i64 q.pid, .int .i64 q.ep, .int .i64 q.grp, .int .i64 q.part, .int .i64 q.off] (by unfold maxLen; simp))) (by intro n hn; simp only [List.mem_cons, List.not_mem_nil, or_false] at hn; rcases hn with rfl | rfl | rfl | rfl | rfl <;> omega) (by omega) (by simp) HC2.out
  obtain ⟨L3, hL3⟩ : ∃ L, L2 ++ encs [q.pid, q.ep, q.grp, q.part, q.off] = L := ⟨_, rfl⟩
  rw [hL3] at nm
  have NM3 := Lib.hid nm
  have ln3 : L3.length ≤ 120 := by
    rw [← hL3, List.length_append]
    have h := encs_len [q.pid, q.ep, q.grp, q.part, q.off] (by intro n hn; simp only [List.mem_cons, List.not_mem_nil, or_false] at hn; rcases hn with rfl | rfl | rfl | rfl | rfl <;> omega)
    simp only [List.length_cons, List.length_nil] at h ⊢
    omega
  have HL3 := Lib.hid hL3
  clear nm hL3
  go_wp2_with fail
  refine NM3.out.mono ?_
  rintro e w3 ⟨A13, c13, rfl, r, hc, b⟩
  have KB3 := Lib.hid ((KB2.out.alloc _).below b (by have := KB2.out.lt; simp; omega))
  have BE3 := Lib.hid (btrans (bal BE2.out _) b)
  have RR3 := Lib.hid r
  have HC3 := Lib.hid hc
  clear r hc b NM3 x0 x3 x4 x6 x5 x7
  have xx := KB3.out.cell 0
  go_wp2_with fail
  go_ret2
  have e : L3 = encRq q := by
    rw [HEN.out, ← HL3.out, ← HL2.out]
    show (([] ++ (enc q.kd.toNat ++ [])) ++ (enc q.pid.toNat ++ (enc q.ep.toNat ++ (enc q.grp.toNat ++ (enc q.part.toNat ++ (enc q.off.toNat ++ [])))))) = enc q.kd.toNat ++ (enc q.pid.toNat ++ (enc q.ep.toNat ++ (enc q.grp.toNat ++ (enc q.part.toNat ++ (enc q.off.toNat ++ [])))))
    simp only [List.nil_append, List.append_nil, List.append_assoc]
  rw [← e]
  exact ⟨A13, c13, rfl, RR3.out, HC3.out, BE3.out⟩
end Go.Proofs.YtcockikekgmfkaaGreatDoor
namespace Go.Proofs.YtcockikekgmfkaaGreatDoor
open Go.RowKit

set_option maxRecDepth 100000 in
set_option maxHeartbeats 4000000 in
theorem rrBytes_4 (q : Rq) (hk : q.kd = 4) (A1 : Option Addr) (c1 : Nat) (w : World) (hr : Reads w w.heap.size 2 A1 q.b.rs.length (cellsR q.b.rs)) (hm : mayRq q) (hl : q.b.rs.length ≤ 1000000) :
    Calls Tryz.prog 8 #[(.agg #[.int .i8 q.kd, .int .i64 q.tid, .int .i64 q.tm, .int .i64 q.pid, .int .i64 q.ep, .int .i64 q.part, .int .i64 q.grp, .int .i64 q.off, .int .i64 q.most, .bool q.yes, .int .i64 q.b.pid, .int .i64 q.b.ep, .int .i64 q.b.seq, .bool q.b.txn, .slice A1 q.b.rs.length c1])] w (BytesPost (encRq q) 0 w) := by
  have HR := Lib.hid (fun W (h : Below w.heap.size w W) => (hr.below h).more h.size)
  have hv := ((may8_4 q hk).1 hm).1
  obtain ⟨g0, g1⟩ := hv
  have r0 : 0 ≤ q.pid ∧ q.pid ≤ 1048576 := by have h := of_decide_eq_true g0; omega
  have r1 : 0 ≤ q.ep ∧ q.ep ≤ 1048576 := by have h := of_decide_eq_true g1; omega
  have rk : 0 ≤ q.kd ∧ q.kd ≤ 1048576 := by omega
  have cv : IntKind.i64.wrap q.kd = q.kd := IntWalk.i64_in _ (by omega)
  have hen : encRq q = enc q.kd.toNat ++ eFs cF [.pid, .ep, .yes] q.get := by unfold encRq; rw [show flOf q.kd = [.pid, .ep, .yes] by rw [hk]; rfl]
  have cc1 : (q.kd == 1) = false := by rw [hk]; rfl
  have cc2 : (q.kd == 2) = false := by rw [hk]; rfl
  have cc3 : (q.kd == 3) = false := by rw [hk]; rfl
  have cc4 : (q.kd == 4) = true := by rw [hk]; rfl
  have K0 := Lib.hid (Blk.new w 27 #[.int .i8 q.kd, .int .i64 q.tid, .int .i64 q.tm, .int .i64 q.pid, .int .i64 q.ep, .int .i64 q.part, .int .i64 q.grp, .int .i64 q.off, .int .i64 q.most, .bool q.yes, .int .i64 q.b.pid, .int .i64 q.b.ep, .int .i64 q.b.seq, .bool q.b.txn, .slice A1 q.b.rs.length c1])
  have B0 := Lib.hid (bal (Below.refl w.heap.size w) (.cells #[.int .i8 q.kd, .int .i64 q.tid, .int .i64 q.tm, .int .i64 q.pid, .int .i64 q.ep, .int .i64 q.part, .int .i64 q.grp, .int .i64 q.off, .int .i64 q.most, .bool q.yes, .int .i64 q.b.pid, .int .i64 q.b.ep, .int .i64 q.b.seq, .bool q.b.txn, .slice A1 q.b.rs.length c1] 27))
  have MY := Lib.hid (rrMay_ok q A1 c1 _ (HR.out _ B0.out) hl hm)
  have HEN := Lib.hid hen
  clear hr hm hk hen g0 g1
  go_enter Tryz.func8, Tryz.ntmps8
  go_wp2_with fail
  refine MY.out.mono ?_
  rintro e w1 ⟨rfl, b1⟩
  have KB1 := Lib.hid (K0.out.below b1 (by simp))
  have BE1 := Lib.hid (btrans B0.out b1)
  clear b1
  have x0 := KB1.out.cell 0
  have nm := numbers_any none ([] : List UInt8) 0 (some ⟨w1.heap.size, 0, none⟩) [q.kd] 1 (w1.alloc (.cells #[.int .i64 q.kd] 3)) Reads.none_ (Reads.of_own (own_newN w1 3 #[.int .i64 q.kd] (by unfold maxLen; simp))) (by intro n hn; simp only [List.mem_cons, List.not_mem_nil, or_false] at hn; rcases hn with rfl <;> omega) (by decide) (by simp) (Nat.le_refl _)
  obtain ⟨L2, hL2⟩ : ∃ L, ([] : List UInt8) ++ encs [q.kd] = L := ⟨_, rfl⟩
  rw [hL2] at nm
  have NM2 := Lib.hid nm
  have ln2 : L2.length ≤ 80 := by
    rw [← hL2, List.length_append]
    have h := encs_len [q.kd] (by intro n hn; simp only [List.mem_cons, List.not_mem_nil, or_false] at hn; rcases hn with rfl <;> omega)
    simp only [List.length_cons, List.length_nil] at h ⊢
    omega
  have HL2 := Lib.hid hL2
  clear nm hL2
  go_wp2_with fail
  refine NM2.out.mono ?_
  rintro e w2 ⟨A12, c12, rfl, r, hc, b⟩
  have KB2 := Lib.hid ((KB1.out.alloc _).below b (by have := KB1.out.lt; simp; omega))
  have BE2 := Lib.hid (btrans (bal BE1.out _) b)
  have RR2 := Lib.hid r
  have HC2 := Lib.hid hc
  clear r hc b NM2 x0
  have x0 := KB2.out.cell 0
  have x3 := KB2.out.cell 3
  have x4 := KB2.out.cell 4
  have nm := numbers_any A12 L2 c12 (some ⟨w2.heap.size, 0, none⟩) [q.pid, q.ep] 2 (w2.alloc (.cells #[.int .i64 q.pid, .int .i64 q.ep] 3)) ((RR2.out.alloc (Nat.le_refl _) _).more (by simp)) (Reads.of_own (own_newN w2 3 #[.int .i64 q.pid, .int .i64 q.ep] (by unfold maxLen; simp))) (by intro n hn; simp only [List.mem_cons, List.not_mem_nil, or_false] at hn; rcases hn with rfl | rfl <;> omega) (by omega) (by simp) HC2.out
  obtain ⟨L3, hL3⟩ : ∃ L, L2 ++ encs [q.pid, q.ep] = L := ⟨_, rfl⟩
  rw [hL3] at nm
  have NM3 := Lib.hid nm
  have ln3 : L3.length ≤ 120 := by
    rw [← hL3, List.length_append]
    have h := encs_len [q.pid, q.ep] (by intro n hn; simp only [List.mem_cons, List.not_mem_nil, or_false] at hn; rcases hn with rfl | rfl <;> omega)
    simp only [List.length_cons, List.length_nil] at h ⊢
    omega
  have HL3 := Lib.hid hL3
  clear nm hL3
  go_wp2_with fail
  refine NM3.out.mono ?_
  rintro e w3 ⟨A13, c13, rfl, r, hc, b⟩
  have KB3 := Lib.hid ((KB2.out.alloc _).below b (by have := KB2.out.lt; simp; omega))
  have BE3 := Lib.hid (btrans (bal BE2.out _) b)
  have RR3 := Lib.hid r
  have HC3 := Lib.hid hc
  clear r hc b NM3 x0 x3 x4
  have x9 := KB3.out.cell 9
  have nm := rFlag_any A13 L3 c13 q.yes w3 RR3.out (by omega)
  obtain ⟨L4, hL4⟩ : ∃ L, L3 ++ encY q.yes = L := ⟨_, rfl⟩
  rw [hL4] at nm
  have NM4 := Lib.hid nm
  have HL4 := Lib.hid hL4
  clear nm hL4
  go_wp2_with fail
  refine NM4.out.mono ?_
  rintro e w4 ⟨A14, c14, rfl, r, hc, b⟩
  have BE4 := Lib.hid (btrans BE3.out b)
  have RR4 := Lib.hid (Reads.of_own r)
  have HC4 := Lib.hid hc
  clear r hc b NM4 x9
  go_wp2_with fail
  go_ret2
  have e : L4 = encRq q := by
    rw [HEN.out, ← HL4.out, ← HL3.out, ← HL2.out]
    show ((([] ++ (enc q.kd.toNat ++ [])) ++ (enc q.pid.toNat ++ (enc q.ep.toNat ++ []))) ++ encY q.yes) = enc q.kd.toNat ++ (enc q.pid.toNat ++ (enc q.ep.toNat ++ (encY q.yes ++ [])))
    simp only [List.nil_append, List.append_nil, List.append_assoc]
  rw [← e]
  exact ⟨A14, c14, rfl, RR4.out, HC4.out, BE4.out⟩
end Go.Proofs.YtcockikekgmfkaaGreatDoor
namespace Go.Proofs.YtcockikekgmfkaaGreatDoor
open Go.RowKit

set_option maxRecDepth 100000 in
set_option maxHeartbeats 4000000 in
theorem rrBytes_5 (q : Rq) (hk : q.kd = 5) (A1 : Option Addr) (c1 : Nat) (w : World) (hr : Reads w w.heap.size 2 A1 q.b.rs.length (cellsR q.b.rs)) (hm : mayRq q) (hl : q.b.rs.length ≤ 1000000) :
    Calls Tryz.prog 8 #[(.agg #[.int .i8 q.kd, .int .i64 q.tid, .int .i64 q.tm, .int .i64 q.pid, .int .i64 q.ep, .int .i64 q.part, .int .i64 q.grp, .int .i64 q.off, .int .i64 q.most, .bool q.yes, .int .i64 q.b.pid, .int .i64 q.b.ep, .int .i64 q.b.seq, .bool q.b.txn, .slice A1 q.b.rs.length c1])] w (BytesPost (encRq q) 0 w) := by
  have HR := Lib.hid (fun W (h : Below w.heap.size w W) => (hr.below h).more h.size)
  have hv := ((may8_5 q hk).1 hm).1
  obtain ⟨g0, g1, g2⟩ := hv
  have r0 : 0 ≤ q.part ∧ q.part ≤ 1048576 := by have h := of_decide_eq_true g0; omega
  have r1 : 0 ≤ q.off ∧ q.off ≤ 1048576 := by have h := of_decide_eq_true g1; omega
  have r2 : 0 ≤ q.most ∧ q.most ≤ 1048576 := by have h := of_decide_eq_true g2; omega
  have rk : 0 ≤ q.kd ∧ q.kd ≤ 1048576 := by omega
  have cv : IntKind.i64.wrap q.kd = q.kd := IntWalk.i64_in _ (by omega)
  have hen : encRq q = enc q.kd.toNat ++ eFs cF [.part, .off, .most, .yes] q.get := by unfold encRq; rw [show flOf q.kd = [.part, .off, .most, .yes] by rw [hk]; rfl]
  have cc1 : (q.kd == 1) = false := by rw [hk]; rfl
  have cc2 : (q.kd == 2) = false := by rw [hk]; rfl
  have cc3 : (q.kd == 3) = false := by rw [hk]; rfl
  have cc4 : (q.kd == 4) = false := by rw [hk]; rfl
  have cc5 : (q.kd == 5) = true := by rw [hk]; rfl
  have K0 := Lib.hid (Blk.new w 27 #[.int .i8 q.kd, .int .i64 q.tid, .int .i64 q.tm, .int .i64 q.pid, .int .i64 q.ep, .int .i64 q.part, .int .i64 q.grp, .int .i64 q.off, .int .i64 q.most, .bool q.yes, .int .i64 q.b.pid, .int .i64 q.b.ep, .int .i64 q.b.seq, .bool q.b.txn, .slice A1 q.b.rs.length c1])
  have B0 := Lib.hid (bal (Below.refl w.heap.size w) (.cells #[.int .i8 q.kd, .int .i64 q.tid, .int .i64 q.tm, .int .i64 q.pid, .int .i64 q.ep, .int .i64 q.part, .int .i64 q.grp, .int .i64 q.off, .int .i64 q.most, .bool q.yes, .int .i64 q.b.pid, .int .i64 q.b.ep, .int .i64 q.b.seq, .bool q.b.txn, .slice A1 q.b.rs.length c1] 27))
  have MY := Lib.hid (rrMay_ok q A1 c1 _ (HR.out _ B0.out) hl hm)
  have HEN := Lib.hid hen
  clear hr hm hk hen g0 g1 g2
  go_enter Tryz.func8, Tryz.ntmps8
  go_wp2_with fail
  refine MY.out.mono ?_
  rintro e w1 ⟨rfl, b1⟩
  have KB1 := Lib.hid (K0.out.below b1 (by simp))
  have BE1 := Lib.hid (btrans B0.out b1)
  clear b1
  have x0 := KB1.out.cell 0
  have nm := numbers_any none ([] : List UInt8) 0 (some ⟨w1.heap.size, 0, none⟩) [q.kd] 1 (w1.alloc (.cells #[.int .i64 q.kd] 3)) Reads.none_ (Reads.of_own (own_newN w1 3 #[.int .i64 q.kd] (by unfold maxLen; simp))) (by intro n hn; simp only [List.mem_cons, List.not_mem_nil, or_false] at hn; rcases hn with rfl <;> omega) (by decide) (by simp) (Nat.le_refl _)
  obtain ⟨L2, hL2⟩ : ∃ L, ([] : List UInt8) ++ encs [q.kd] = L := ⟨_, rfl⟩
  rw [hL2] at nm
  have NM2 := Lib.hid nm
  have ln2 : L2.length ≤ 80 := by
    rw [← hL2, List.length_append]
    have h := encs_len [q.kd] (by intro n hn; simp only [List.mem_cons, List.not_mem_nil, or_false] at hn; rcases hn with rfl <;> omega)
    simp only [List.length_cons, List.length_nil] at h ⊢
    omega
  have HL2 := Lib.hid hL2
  clear nm hL2
  go_wp2_with fail
  refine NM2.out.mono ?_
  rintro e w2 ⟨A12, c12, rfl, r, hc, b⟩
  have KB2 := Lib.hid ((KB1.out.alloc _).below b (by have := KB1.out.lt; simp; omega))
  have BE2 := Lib.hid (btrans (bal BE1.out _) b)
  have RR2 := Lib.hid r
  have HC2 := Lib.hid hc
  clear r hc b NM2 x0
  have x0 := KB2.out.cell 0
  have x5 := KB2.out.cell 5
  have x7 := KB2.out.cell 7
  have x8 := KB2.out.cell 8
  have nm := numbers_any A12 L2 c12 (some ⟨w2.heap.size, 0, none⟩) [q.part, q.off, q.most] 3 (w2.alloc (.cells #[.int .i64 q.part, .int .i64 q.off, .int .i64 q.most] 3)) ((RR2.out.alloc (Nat.le_refl _) _).more (by simp)) (Reads.of_own (own_newN w2 3 #[.int .i64 q.part, .int .i64 q.off, .int .i64 q.most] (by unfold maxLen; simp))) (by intro n hn; simp only [List.mem_cons, List.not_mem_nil, or_false] at hn; rcases hn with rfl | rfl | rfl <;> omega) (by omega) (by simp) HC2.out
  obtain ⟨L3, hL3⟩ : ∃ L, L2 ++ encs [q.part, q.off, q.most] = L := ⟨_, rfl⟩
  rw [hL3] at nm
  have NM3 := Lib.hid nm
  have ln3 : L3.length ≤ 120 := by
    rw [← hL3, List.length_append]
    have h := encs_len [q.part, q.off, q.most] (by intro n hn; simp only [List.mem_cons, List.not_mem_nil, or_false] at hn; rcases hn with rfl | rfl | rfl <;> omega)
    simp only [List.length_cons, List.length_nil] at h ⊢
    omega
  have HL3 := Lib.hid hL3
  clear nm hL3
  go_wp2_with fail
  refine NM3.out.mono ?_
  rintro e w3 ⟨A13, c13, rfl, r, hc, b⟩
  have KB3 := Lib.hid ((KB2.out.alloc _).below b (by have := KB2.out.lt; simp; omega))
  have BE3 := Lib.hid (btrans (bal BE2.out _) b)
  have RR3 := Lib.hid r
  have HC3 := Lib.hid hc
  clear r hc b NM3 x0 x5 x7 x8
  have x9 := KB3.out.cell 9
  have nm := rFlag_any A13 L3 c13 q.yes w3 RR3.out (by omega)
  obtain ⟨L4, hL4⟩ : ∃ L, L3 ++ encY q.yes = L := ⟨_, rfl⟩
  rw [hL4] at nm
  have NM4 := Lib.hid nm
  have HL4 := Lib.hid hL4
  clear nm hL4
  go_wp2_with fail
  refine NM4.out.mono ?_
  rintro e w4 ⟨A14, c14, rfl, r, hc, b⟩
  have BE4 := Lib.hid (btrans BE3.out b)
  have RR4 := Lib.hid (Reads.of_own r)
  have HC4 := Lib.hid hc
  clear r hc b NM4 x9
  go_wp2_with fail
  go_ret2
  have e : L4 = encRq q := by
    rw [HEN.out, ← HL4.out, ← HL3.out, ← HL2.out]
    show ((([] ++ (enc q.kd.toNat ++ [])) ++ (enc q.part.toNat ++ (enc q.off.toNat ++ (enc q.most.toNat ++ [])))) ++ encY q.yes) = enc q.kd.toNat ++ (enc q.part.toNat ++ (enc q.off.toNat ++ (enc q.most.toNat ++ (encY q.yes ++ []))))
    simp only [List.nil_append, List.append_nil, List.append_assoc]
  rw [← e]
  exact ⟨A14, c14, rfl, RR4.out, HC4.out, BE4.out⟩
end Go.Proofs.YtcockikekgmfkaaGreatDoor
namespace Go.Proofs.YtcockikekgmfkaaGreatDoor
open Go.RowKit

set_option maxRecDepth 100000 in
set_option maxHeartbeats 4000000 in
theorem rrBytes_6 (q : Rq) (hk : q.kd = 6) (A1 : Option Addr) (c1 : Nat) (w : World) (hr : Reads w w.heap.size 2 A1 q.b.rs.length (cellsR q.b.rs)) (hm : mayRq q) (hl : q.b.rs.length ≤ 1000000) :
    Calls Tryz.prog 8 #[(.agg #[.int .i8 q.kd, .int .i64 q.tid, .int .i64 q.tm, .int .i64 q.pid, .int .i64 q.ep, .int .i64 q.part, .int .i64 q.grp, .int .i64 q.off, .int .i64 q.most, .bool q.yes, .int .i64 q.b.pid, .int .i64 q.b.ep, .int .i64 q.b.seq, .bool q.b.txn, .slice A1 q.b.rs.length c1])] w (BytesPost (encRq q) 0 w) := by
  have HR := Lib.hid (fun W (h : Below w.heap.size w W) => (hr.below h).more h.size)
  have hv := ((may8_6 q hk).1 hm).1
  obtain ⟨g0, g1, g2⟩ := hv
  have r0 : 0 ≤ q.grp ∧ q.grp ≤ 1048576 := by have h := of_decide_eq_true g0; omega
  have r1 : 0 ≤ q.part ∧ q.part ≤ 1048576 := by have h := of_decide_eq_true g1; omega
  have r2 : 0 ≤ q.off ∧ q.off ≤ 1048576 := by have h := of_decide_eq_true g2; omega
  have rk : 0 ≤ q.kd ∧ q.kd ≤ 1048576 := by omega
  have cv : IntKind.i64.wrap q.kd = q.kd := IntWalk.i64_in _ (by omega)
  have hen : encRq q = enc q.kd.toNat ++ eFs cF [.grp, .part, .off] q.get := by unfold encRq; rw [show flOf q.kd = [.grp, .part, .off] by rw [hk]; rfl]
  have cc1 : (q.kd == 1) = false := by rw [hk]; rfl
  have cc2 : (q.kd == 2) = false := by rw [hk]; rfl
  have cc3 : (q.kd == 3) = false := by rw [hk]; rfl
  have cc4 : (q.kd == 4) = false := by rw [hk]; rfl
  have cc5 : (q.kd == 5) = false := by rw [hk]; rfl
  have cc6 : (q.kd == 6) = true := by rw [hk]; rfl
  have K0 := Lib.hid (Blk.new w 27 #[.int .i8 q.kd, .int .i64 q.tid, .int .i64 q.tm, .int .i64 q.pid, .int .i64 q.ep, .int .i64 q.part, .int .i64 q.grp, .int .i64 q.off, .int .i64 q.most, .bool q.yes, .int .i64 q.b.pid, .int .i64 q.b.ep, .int .i64 q.b.seq, .bool q.b.txn, .slice A1 q.b.rs.length c1])
  have B0 := Lib.hid (bal (Below.refl w.heap.size w) (.cells #[.int .i8 q.kd, .int .i64 q.tid, .int .i64 q.tm, .int .i64 q.pid, .int .i64 q.ep, .int .i64 q.part, .int .i64 q.grp, .int .i64 q.off, .int .i64 q.most, .bool q.yes, .int .i64 q.b.pid, .int .i64 q.b.ep, .int .i64 q.b.seq, .bool q.b.txn, .slice A1 q.b.rs.length c1] 27))
  have MY := Lib.hid (rrMay_ok q A1 c1 _ (HR.out _ B0.out) hl hm)
  have HEN := Lib.hid hen
  clear hr hm hk hen g0 g1 g2
  go_enter Tryz.func8, Tryz.ntmps8
  go_wp2_with fail
  refine MY.out.mono ?_
  rintro e w1 ⟨rfl, b1⟩
  have KB1 := Lib.hid (K0.out.below b1 (by simp))
  have BE1 := Lib.hid (btrans B0.out b1)
  clear b1
  have x0 := KB1.out.cell 0
  have nm := numbers_any none ([] : List UInt8) 0 (some ⟨w1.heap.size, 0, none⟩) [q.kd] 1 (w1.alloc (.cells #[.int .i64 q.kd] 3)) Reads.none_ (Reads.of_own (own_newN w1 3 #[.int .i64 q.kd] (by unfold maxLen; simp))) (by intro n hn; simp only [List.mem_cons, List.not_mem_nil, or_false] at hn; rcases hn with rfl <;> omega) (by decide) (by simp) (Nat.le_refl _)
  obtain ⟨L2, hL2⟩ : ∃ L, ([] : List UInt8) ++ encs [q.kd] = L := ⟨_, rfl⟩
  rw [hL2] at nm
  have NM2 := Lib.hid nm
  have ln2 : L2.length ≤ 80 := by
    rw [← hL2, List.length_append]
    have h := encs_len [q.kd] (by intro n hn; simp only [List.mem_cons, List.not_mem_nil, or_false] at hn; rcases hn with rfl <;> omega)
    simp only [List.length_cons, List.length_nil] at h ⊢
    omega
  have HL2 := Lib.hid hL2
  clear nm hL2
  go_wp2_with fail
  refine NM2.out.mono ?_
  rintro e w2 ⟨A12, c12, rfl, r, hc, b⟩
  have KB2 := Lib.hid ((KB1.out.alloc _).below b (by have := KB1.out.lt; simp; omega))
  have BE2 := Lib.hid (btrans (bal BE1.out _) b)
  have RR2 := Lib.hid r
  have HC2 := Lib.hid hc
  clear r hc b NM2 x0
  have x0 := KB2.out.cell 0
  have x6 := KB2.out.cell 6
  have x5 := KB2.out.cell 5
  have x7 := KB2.out.cell 7
  have nm := numbers_any A12 L2 c12 (some ⟨w2.heap.size, 0, none⟩) [q.grp, q.part, q.off] 3 (w2.alloc (.cells #[.int .i64 q.grp, .int .i64 q.part, .int .i64 q.off] 3)) ((RR2.out.alloc (Nat.le_refl _) _).more (by simp)) (Reads.of_own (own_newN w2 3 #[.int .i64 q.grp, .int .i64 q.part, .int .i64 q.off] (by unfold maxLen; simp))) (by intro n hn; simp only [List.mem_cons, List.not_mem_nil, or_false] at hn; rcases hn with rfl | rfl | rfl <;> omega) (by omega) (by simp) HC2.out
  obtain ⟨L3, hL3⟩ : ∃ L, L2 ++ encs [q.grp, q.part, q.off] = L := ⟨_, rfl⟩
  rw [hL3] at nm
  have NM3 := Lib.hid nm
  have ln3 : L3.length ≤ 120 := by
    rw [← hL3, List.length_append]
    have h := encs_len [q.grp, q.part, q.off] (by intro n hn; simp only [List.mem_cons, List.not_mem_nil, or_false] at hn; rcases hn with rfl | rfl | rfl <;> omega)
    simp only [List.length_cons, List.length_nil] at h ⊢
    omega
  have HL3 := Lib.hid hL3
  clear nm hL3
  go_wp2_with fail
  refine NM3.out.mono ?_
  rintro e w3 ⟨A13, c13, rfl, r, hc, b⟩
  have KB3 := Lib.hid ((KB2.out.alloc _).below b (by have := KB2.out.lt; simp; omega))
  have BE3 := Lib.hid (btrans (bal BE2.out _) b)
  have RR3 := Lib.hid r
  have HC3 := Lib.hid hc
  clear r hc b NM3 x0 x6 x5 x7
  have xx := KB3.out.cell 0
  go_wp2_with fail
  go_ret2
  have e : L3 = encRq q := by
    rw [HEN.out, ← HL3.out, ← HL2.out]
    show (([] ++ (enc q.kd.toNat ++ [])) ++ (enc q.grp.toNat ++ (enc q.part.toNat ++ (enc q.off.toNat ++ [])))) = enc q.kd.toNat ++ (enc q.grp.toNat ++ (enc q.part.toNat ++ (enc q.off.toNat ++ [])))
    simp only [List.nil_append, List.append_nil, List.append_assoc]
  rw [← e]
  exact ⟨A13, c13, rfl, RR3.out, HC3.out, BE3.out⟩
end Go.Proofs.YtcockikekgmfkaaGreatDoor
namespace Go.Proofs.YtcockikekgmfkaaGreatDoor
open Go.RowKit

set_option maxRecDepth 100000 in
set_option maxHeartbeats 4000000 in
theorem rrBytes_7 (q : Rq) (hk : q.kd = 7) (A1 : Option Addr) (c1 : Nat) (w : World) (hr : Reads w w.heap.size 2 A1 q.b.rs.length (cellsR q.b.rs)) (hm : mayRq q) (hl : q.b.rs.length ≤ 1000000) :
    Calls Tryz.prog 8 #[(.agg #[.int .i8 q.kd, .int .i64 q.tid, .int .i64 q.tm, .int .i64 q.pid, .int .i64 q.ep, .int .i64 q.part, .int .i64 q.grp, .int .i64 q.off, .int .i64 q.most, .bool q.yes, .int .i64 q.b.pid, .int .i64 q.b.ep, .int .i64 q.b.seq, .bool q.b.txn, .slice A1 q.b.rs.length c1])] w (BytesPost (encRq q) 0 w) := by
  have HR := Lib.hid (fun W (h : Below w.heap.size w W) => (hr.below h).more h.size)
  have hv := ((may8_7 q hk).1 hm).1
  obtain ⟨g0, g1⟩ := hv
  have r0 : 0 ≤ q.grp ∧ q.grp ≤ 1048576 := by have h := of_decide_eq_true g0; omega
  have r1 : 0 ≤ q.part ∧ q.part ≤ 1048576 := by have h := of_decide_eq_true g1; omega
  have rk : 0 ≤ q.kd ∧ q.kd ≤ 1048576 := by omega
  have cv : IntKind.i64.wrap q.kd = q.kd := IntWalk.i64_in _ (by omega)
  have hen : encRq q = enc q.kd.toNat ++ eFs cF [.grp, .part] q.get := by unfold encRq; rw [show flOf q.kd = [.grp, .part] by rw [hk]; rfl]
  have cc1 : (q.kd == 1) = false := by rw [hk]; rfl
  have cc2 : (q.kd == 2) = false := by rw [hk]; rfl
  have cc3 : (q.kd == 3) = false := by rw [hk]; rfl
  have cc4 : (q.kd == 4) = false := by rw [hk]; rfl
  have cc5 : (q.kd == 5) = false := by rw [hk]; rfl
  have cc6 : (q.kd == 6) = false := by rw [hk]; rfl
  have cc7 : (q.kd == 7) = true := by rw [hk]; rfl
  have K0 := Lib.hid (Blk.new w 27 #[.int .i8 q.kd, .int .i64 q.tid, .int .i64 q.tm, .int .i64 q.pid, .int .i64 q.ep, .int .i64 q.part, .int .i64 q.grp, .int .i64 q.off, .int .i64 q.most, .bool q.yes, .int .i64 q.b.pid, .int .i64 q.b.ep, .int .i64 q.b.seq, .bool q.b.txn, .slice A1 q.b.rs.length c1])
  have B0 := Lib.hid (bal (Below.refl w.heap.size w) (.cells #[.int .i8 q.kd, .int .i64 q.tid, .int .i64 q.tm, .int .i64 q.pid, .int .i64 q.ep, .int .i64 q.part, .int .i64 q.grp, .int .i64 q.off, .int .i64 q.most, .bool q.yes, .int .i64 q.b.pid, .int .i64 q.b.ep, .int .i64 q.b.seq, .bool q.b.txn, .slice A1 q.b.rs.length c1] 27))
  have MY := Lib.hid (rrMay_ok q A1 c1 _ (HR.out _ B0.out) hl hm)
  have HEN := Lib.hid hen
  clear hr hm hk hen g0 g1
  go_enter Tryz.func8, Tryz.ntmps8
  go_wp2_with fail
  refine MY.out.mono ?_
  rintro e w1 ⟨rfl, b1⟩
  have KB1 := Lib.hid (K0.out.below b1 (by simp))
  have BE1 := Lib.hid (btrans B0.out b1)
  clear b1
  have x0 := KB1.out.cell 0
  have nm := numbers_any none ([] : List UInt8) 0 (some ⟨w1.heap.size, 0, none⟩) [q.kd] 1 (w1.alloc (.cells #[.int .i64 q.kd] 3)) Reads.none_ (Reads.of_own (own_newN w1 3 #[.int .i64 q.kd] (by unfold maxLen; simp))) (by intro n hn; simp only [List.mem_cons, List.not_mem_nil, or_false] at hn; rcases hn with rfl <;> omega) (by decide) (by simp) (Nat.le_refl _)
  obtain ⟨L2, hL2⟩ : ∃ L, ([] : List UInt8) ++ encs [q.kd] = L := ⟨_, rfl⟩
  rw [hL2] at nm
  have NM2 := Lib.hid nm
  have ln2 : L2.length ≤ 80 := by
    rw [← hL2, List.length_append]
    have h := encs_len [q.kd] (by intro n hn; simp only [List.mem_cons, List.not_mem_nil, or_false] at hn; rcases hn with rfl <;> omega)
    simp only [List.length_cons, List.length_nil] at h ⊢
    omega
  have HL2 := Lib.hid hL2
  clear nm hL2
  go_wp2_with fail
  refine NM2.out.mono ?_
  rintro e w2 ⟨A12, c12, rfl, r, hc, b⟩
  have KB2 := Lib.hid ((KB1.out.alloc _).below b (by have := KB1.out.lt; simp; omega))
  have BE2 := Lib.hid (btrans (bal BE1.out _) b)
  have RR2 := Lib.hid r
  have HC2 := Lib.hid hc
  clear r hc b NM2 x0
  have x0 := KB2.out.cell 0
  have x6 := KB2.out.cell 6
  have x5 := KB2.out.cell 5
  have nm := numbers_any A12 L2 c12 (some ⟨w2.heap.size, 0, none⟩) [q.grp, q.part] 2 (w2.alloc (.cells #[.int .i64 q.grp, .int .i64 q.part] 3)) ((RR2.out.alloc (Nat.le_refl _) _).more (by simp)) (Reads.of_own (own_newN w2 3 #[.int .i64 q.grp, .int .i64 q.part] (by unfold maxLen; simp))) (by intro n hn; simp only [List.mem_cons, List.not_mem_nil, or_false] at hn; rcases hn with rfl | rfl <;> omega) (by omega) (by simp) HC2.out
  obtain ⟨L3, hL3⟩ : ∃ L, L2 ++ encs [q.grp, q.part] = L := ⟨_, rfl⟩
  rw [hL3] at nm
  have NM3 := Lib.hid nm
  have ln3 : L3.length ≤ 120 := by
    rw [← hL3, List.length_append]
    have h := encs_len [q.grp, q.part] (by intro n hn; simp only [List.mem_cons, List.not_mem_nil, or_false] at hn; rcases hn with rfl | rfl <;> omega)
    simp only [List.length_cons, List.length_nil] at h ⊢
    omega
  have HL3 := Lib.hid hL3
  clear nm hL3
  go_wp2_with fail
  refine NM3.out.mono ?_
  rintro e w3 ⟨A13, c13, rfl, r, hc, b⟩
  have KB3 := Lib.hid ((KB2.out.alloc _).below b (by have := KB2.out.lt; simp; omega))
  have BE3 := Lib.hid (btrans (bal BE2.out _) b)
  have RR3 := Lib.hid r
  have HC3 := Lib.hid hc
  clear r hc b NM3 x0 x6 x5
  have xx := KB3.out.cell 0
  go_wp2_with fail
  go_ret2
  have e : L3 = encRq q := by
    rw [HEN.out, ← HL3.out, ← HL2.out]
    show (([] ++ (enc q.kd.toNat ++ [])) ++ (enc q.grp.toNat ++ (enc q.part.toNat ++ []))) = enc q.kd.toNat ++ (enc q.grp.toNat ++ (enc q.part.toNat ++ []))
    simp only [List.nil_append, List.append_nil, List.append_assoc]
  rw [← e]
  exact ⟨A13, c13, rfl, RR3.out, HC3.out, BE3.out⟩
end Go.Proofs.YtcockikekgmfkaaGreatDoor
