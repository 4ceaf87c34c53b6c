/-
  Words for structs of many cells: a whole struct loaded and stored without going cell by cell.
  Layer 7: small functions; equal lists of batches seen; SameProd.
  Layer 7: Same of entries.
-/
import Derived.Test.YtckdecodpjfcnaaGreatDoorGrp13
import Derived.Test.YtckdecodpjfcnaaGreatDoorGrp08
import Derived.Test.YtckdecodpjfcnaaGreatDoorGrp14
import Derived.Test.YtckdecodpjfcnaaGreatDoorGrp18
import Derived.Test.YtckdecodpjfcnaaGreatDoorGrp11
import Derived.Deep.MidRow
set_option linter.unusedVariables false
set_option linter.unusedSimpArgs false
namespace Go.Proofs.YtckdecodpjfcnaaGreatDoor
open Go.RowKit

set_option maxRecDepth 100000 in
theorem producer_any (p e : Int) (w : World) : Calls Tryz.prog 37 #[.int .i64 p, .int .i64 e] w fun x w' => x = .returned (.bool (prodB p e)) ∧ w = w' := by
  have HP := Lib.hid (show prodB p e = (decide (1 ≤ p ∧ p ≤ 8) && decide (0 ≤ e ∧ e ≤ 100)) from rfl)
  go_enter Tryz.func37, Tryz.ntmps37
  by_cases h1 : 1 ≤ p
  · by_cases h2 : p ≤ 8
    · by_cases h3 : 0 ≤ e
      · by_cases h4 : e ≤ 100
        · go_wp2_with fail
          go_ret
          exact ⟨ret_bool (by rw [HP.out]; simp [h1, h2, h3, h4]), rfl⟩
        · go_wp2_with fail
          go_ret
          exact ⟨ret_bool (by rw [HP.out]; simp [h4]), rfl⟩
      · go_wp2_with fail
        go_ret
        have h9 : ¬ 0 ≤ e := by omega
        exact ⟨ret_bool (by rw [HP.out]; simp [h9]), rfl⟩
    · go_wp2_with fail
      go_ret
      exact ⟨ret_bool (by rw [HP.out, decide_eq_false (show ¬ (1 ≤ p ∧ p ≤ 8) by omega)]; rfl), rfl⟩
  · go_wp2_with fail
    go_ret
    have h9 : ¬ 1 ≤ p := by omega
    exact ⟨ret_bool (by rw [HP.out]; simp [h9]), rfl⟩
theorem sequence_any (x : Int) (w : World) : Calls Tryz.prog 35 #[.int .i64 x] w fun e w' => e = .returned (.bool (seqB x)) ∧ w = w' := by
  have HP := Lib.hid (show seqB x = decide (0 ≤ x ∧ x ≤ 1048576) from rfl)
  go_enter Tryz.func35, Tryz.ntmps35
  by_cases h1 : 0 ≤ x
  · by_cases h2 : x ≤ 1048576
    · go_wp2_with fail
      go_ret
      exact ⟨ret_bool (by rw [HP.out]; simp [h1, h2]), rfl⟩
    · go_wp2_with fail
      go_ret
      exact ⟨ret_bool (by rw [HP.out]; simp [h2]), rfl⟩
  · go_wp2_with fail
    go_ret
    have h9 : ¬ 0 ≤ x := by omega
    exact ⟨ret_bool (by rw [HP.out]; simp [h9]), rfl⟩

set_option maxRecDepth 100000 in
set_option maxHeartbeats 1000000 in
theorem rowE_any (r : Rw) (w : World) : Calls Tryz.prog 38 #[(.agg #[.int .i64 r.1, .int .i64 r.2.1, .int .i64 r.2.2.1, .string r.2.2.2.1, .string r.2.2.2.2])] w fun e w' => e = .returned (.bool (rowB r)) ∧ Below w.heap.size w w' := by
  have HB := Lib.hid (fun x => bal (Below.refl w.heap.size w) x)
  have HV := Lib.hid (show rowB r = (decide (r.1 = 0) && (decide (1 ≤ r.2.1 ∧ r.2.1 ≤ 8) && (decide (0 ≤ r.2.2.1 ∧ r.2.2.1 < 1048576) && (decide (r.2.2.2.1.size ≤ 16) && decide (r.2.2.2.2.size ≤ 16))))) from rfl)
  have PR := Lib.hid (fun W => producer_any r.2.1 0 W)
  have PB := Lib.hid (show prodB r.2.1 0 = decide (1 ≤ r.2.1 ∧ r.2.1 ≤ 8) by unfold prodB; simp)
  go_enter Tryz.func38, Tryz.ntmps38
  by_cases h0 : r.1 = 0
  case neg =>
    have e0 : (r.1 == 0) = false := by simpa using h0
    have hf : rowB r = false := by rw [HV.out, decide_eq_false h0]; rfl
    have HF := Lib.hid hf
    clear hf h0
    go_wp2_with fail
    go_ret
    exact ⟨ret_bool HF.out.symm, HB.out _⟩
  have e0 : (r.1 == 0) = true := by simpa using h0
  have HV1 := Lib.hid (show rowB r = (prodB r.2.1 0 && (decide (0 ≤ r.2.2.1 ∧ r.2.2.1 < 1048576) && (decide (r.2.2.2.1.size ≤ 16) && decide (r.2.2.2.2.size ≤ 16)))) by rw [HV.out, decide_eq_true h0, PB.out]; rfl)
  clear h0
  go_wp2_with fail
  refine (PR.out _).mono ?_
  rintro e w1 ⟨rfl, rfl⟩
  generalize prodB r.2.1 0 = d1 at *
  cases d1
  · go_wp2_with fail
    go_ret
    exact ⟨ret_bool (by rw [HV1.out]; rfl), HB.out _⟩
  by_cases h1 : 0 ≤ r.2.2.1
  case neg =>
    have e1 : decide (0 ≤ r.2.2.1) = false := decide_eq_false h1
    have hf : rowB r = false := by rw [HV1.out, decide_eq_false (fun h => h1 h.1)]; rfl
    have HF := Lib.hid hf
    clear hf h1
    go_wp2_with fail
    go_ret
    exact ⟨ret_bool HF.out.symm, HB.out _⟩
  have e1 : decide (0 ≤ r.2.2.1) = true := decide_eq_true h1
  by_cases h2 : r.2.2.1 < 1048576
  case neg =>
    have e2 : decide (r.2.2.1 < 1048576) = false := decide_eq_false h2
    have hf : rowB r = false := by rw [HV1.out, decide_eq_false (fun h => h2 h.2)]; rfl
    have HF := Lib.hid hf
    clear hf h1 h2
    go_wp2_with fail
    go_ret
    exact ⟨ret_bool HF.out.symm, HB.out _⟩
  have e2 : decide (r.2.2.1 < 1048576) = true := decide_eq_true h2
  by_cases h4 : r.2.2.2.1.size ≤ 16
  case neg =>
    have e4 : decide ((r.2.2.2.1.size : Int) ≤ 16) = false := by simp; omega
    have hf : rowB r = false := by rw [HV1.out]; simp [h4]
    have HF := Lib.hid hf
    clear hf h1 h2
    go_wp2_with fail
    go_ret
    exact ⟨ret_bool HF.out.symm, HB.out _⟩
  have e4 : decide ((r.2.2.2.1.size : Int) ≤ 16) = true := by simp; omega
  by_cases h5 : r.2.2.2.2.size ≤ 16
  · have e5 : decide ((r.2.2.2.2.size : Int) ≤ 16) = true := by simp; omega
    have hf : rowB r = true := by rw [HV1.out]; simp [h1, h2, h4, h5]
    have HF := Lib.hid hf
    clear hf h1 h2
    go_wp2_with fail
    go_ret
    exact ⟨ret_bool HF.out.symm, HB.out _⟩
  · have e5 : decide ((r.2.2.2.2.size : Int) ≤ 16) = false := by simp; omega
    have hf : rowB r = false := by rw [HV1.out]; simp [h5]
    have HF := Lib.hid hf
    clear hf h1 h2
    go_wp2_with fail
    go_ret
    exact ⟨ret_bool HF.out.symm, HB.out _⟩

theorem eqSn (a b : Sn) (w : World) : (Op.equalIn 10000 73 (.agg #[.int .i64 a.1, .int .i64 a.2.1, .int .i64 a.2.2]) (.agg #[.int .i64 b.1, .int .i64 b.2.1, .int .i64 b.2.2])).run Tryz.prog w = .ok (decide (a = b)) w := by
  have u4 := Tryz.underlying3
  have hS : Tryz.prog.underlying 73 = some (.struct (Tryz.prog.fieldsOf 73)) := by kernel_rfl
  have hp : Tryz.prog.stoodInHeld 73 = false := by kernel_rfl
  have a4 := Tryz.isAgg3
  have z4 := Tryz.sizeOf3
  obtain ⟨a1, a2, a3'⟩ := a
  obtain ⟨b1, b2, b3⟩ := b
  rw [show (10000 : Nat) = 9999 + 1 from rfl, run_equalIn_agg w 9999 73 _ _ hS hp]
  simp only [Program.fieldsOf, Tryz.underlying73]
  go_simp
  by_cases h1 : a1 = b1 <;> by_cases h2 : a2 = b2 <;> by_cases h3 : a3' = b3 <;> simp [h1, h2, h3]
theorem eqRw7 (a b : Rw) (w : World) : (Op.equalIn 10000 27 (.agg #[.int .i64 a.1, .int .i64 a.2.1, .int .i64 a.2.2.1, .string a.2.2.2.1, .string a.2.2.2.2]) (.agg #[.int .i64 b.1, .int .i64 b.2.1, .int .i64 b.2.2.1, .string b.2.2.2.1, .string b.2.2.2.2])).run Tryz.prog w = .ok (decide (a = b)) w := by
  have u3 := Tryz.underlying9
  have u4 := Tryz.underlying3
  have hS : Tryz.prog.underlying 27 = some (.struct (Tryz.prog.fieldsOf 27)) := by kernel_rfl
  have hp : Tryz.prog.stoodInHeld 27 = false := by kernel_rfl
  have a3 := Tryz.isAgg9
  have z3 := Tryz.sizeOf9
  have a4 := Tryz.isAgg3
  have z4 := Tryz.sizeOf3
  obtain ⟨a1, a2, a3', a4', a5'⟩ := a
  obtain ⟨b1, b2, b3, b4, b5⟩ := b
  rw [show (10000 : Nat) = 9999 + 1 from rfl, run_equalIn_agg w 9999 27 _ _ hS hp]
  simp only [Program.fieldsOf, Tryz.underlying27]
  go_simp
  by_cases h1 : a1 = b1 <;> by_cases h2 : a2 = b2 <;> by_cases h3 : a3' = b3 <;> by_cases h4 : a4' = b4 <;> by_cases h5 : a5' = b5 <;> simp [h1, h2, h3, h4, h5, toList_inj]
set_option maxRecDepth 100000 in
set_option maxHeartbeats 1000000 in
theorem EqualN_any (A1 A2 : Option Addr) (l1 l2 : List Sn) (c1 c2 B1 B2 : Nat) (w : World) (h1 : Reads w B1 3 A1 l1.length (cellsN l1)) (h2 : Reads w B2 3 A2 l2.length (cellsN l2)) (hl : l1.length ≤ 1000000) :
    Calls Tryz.prog 47 #[.slice A1 l1.length c1, .slice A2 l2.length c2] w fun e w' => e = .returned (.bool (decide (l1 = l2))) ∧ ∃ q, w' = w.drewN q := by
  have hm : Tryz.prog.eqGuardType Tryz.prog.depth 73 = false := by kernel_rfl
  by_cases hlen : l1.length = l2.length
  · have d0 : ((l1.length : Int) != (l2.length : Int)) = false := by rw [hlen]; simp
    have HH1 := Lib.hid h1
    have HH2 := Lib.hid h2
    have HLEN := Lib.hid hlen
    have hl2 : l1.length ≤ l2.length := by omega
    have hl3 : l2.length ≤ l1.length := by omega
    clear h1 h2 hlen
    go_enter Tryz.func47, Tryz.ntmps47
    go_wp2_with fail
    go_loopw [13] (fun y wr => ∃ k q : Nat, k ≤ l1.length ∧ y = .int .i64 k ∧ wr = w.drewN q ∧ l1.take k = l2.take k) (fun y _ => l1.length - (intOf y).toNat)
    case atStart => exact ⟨0, 0, Nat.zero_le _, rfl, rfl, by simp⟩
    case round =>
      obtain ⟨k, q, hk, rfl, rfl, htk⟩ := hrel
      have HTK := Lib.hid htk
      clear htk
      by_cases hlt : k < l1.length
      · have d1 : decide ((k : Int) < (l1.length : Int)) = true := by simp; omega
        obtain ⟨b1, o1, rfl, _, hc1⟩ := HH1.out.plain3 (by omega)
        obtain ⟨b2, o2, rfl, _, hc2⟩ := HH2.out.plain3 (by omega)
        obtain ⟨x, hx⟩ : ∃ z, l1[k]? = some z := ⟨_, List.getElem?_eq_getElem hlt⟩
        obtain ⟨y, hy⟩ : ∃ z, l2[k]? = some z := ⟨_, List.getElem?_eq_getElem (by omega)⟩
        obtain ⟨g1, g2, g3⟩ := hc1 k _ hx
        obtain ⟨k1, k2, k3⟩ := hc2 k _ hy
        have heq := fun W => eqSn x y W
        have i1 : (0 : Int) ≤ (k : Int) := by omega
        have i2 : (k : Int) < (l1.length : Int) := by omega
        have i3 : (k : Int) < (l2.length : Int) := by omega
        have hts := take_snoc_eq HTK.out hx hy
        have HTS := Lib.hid hts
        have HX := Lib.hid hx
        have HY := Lib.hid hy
        clear hc1 hc2 hx hy hts
        by_cases hxy : x = y
        · have HXY := Lib.hid hxy
          rw [decide_eq_true hxy] at heq
          clear hxy
          go_wp2_with fail
          go_quiet (fail)
          go_wp2_with fail
          go_roundw
          case rel => exact ⟨k + 1, _, by omega, by go_num, rfl, HTS.out.2 HXY.out⟩
          case measure => simp [intOf]; omega
        · rw [decide_eq_false hxy] at heq
          have hne : l1 ≠ l2 := ne_of_at HX.out HY.out hxy
          have hf : decide (l1 = l2) = false := by simpa using hne
          have HF := Lib.hid hf
          clear hne hf hxy
          go_wp2_with fail
          go_quiet (fail)
          go_wp2_with fail
          go_ret
          exact ⟨by rw [HF.out]; rfl, _, World.drewN_drewN ..⟩
      · obtain rfl : k = l1.length := by omega
        have d1 : decide ((l1.length : Int) < (l1.length : Int)) = false := by simp
        have he : l1 = l2 := by
          have h3 := HTK.out
          rw [List.take_length, HLEN.out, List.take_length] at h3
          exact h3
        have hf : decide (l1 = l2) = true := by simpa using he
        have HF := Lib.hid hf
        clear he hf
        go_wp2_with fail
        go_ret
        exact ⟨by rw [HF.out]; rfl, _, rfl⟩
  · have d0 : ((l1.length : Int) != (l2.length : Int)) = true := by simp; omega
    have hne : ¬ l1 = l2 := fun h => hlen (by rw [h])
    have hf : decide (l1 = l2) = false := by simpa using hne
    have HF := Lib.hid hf
    clear hf hne hlen h1 h2
    go_enter Tryz.func47, Tryz.ntmps47
    go_wp2_with fail
    go_ret
    exact ⟨by rw [HF.out]; rfl, 0, rfl⟩
set_option maxRecDepth 100000 in
set_option maxHeartbeats 1000000 in
theorem SamePd_any (a b : Pd) (D1 D2 : Option Addr) (e1 e2 : Nat) (w : World) (h1 : Reads w w.heap.size 3 D1 a.seen.length (cellsN a.seen)) (h2 : Reads w w.heap.size 3 D2 b.seen.length (cellsN b.seen)) (hl : a.seen.length ≤ 1000000) :
    Calls Tryz.prog 19 #[(.agg #[.int .i64 a.pid, .int .i64 a.ep, .int .i64 a.nx, .slice D1 a.seen.length e1]), (.agg #[.int .i64 b.pid, .int .i64 b.ep, .int .i64 b.nx, .slice D2 b.seen.length e2])] w fun e w' => e = .returned (.bool (samePd a b)) ∧ Below w.heap.size w w' := by
  have HB := Lib.hid (bal (bal (Below.refl w.heap.size w) (.cells #[.int .i64 a.pid, .int .i64 a.ep, .int .i64 a.nx, .slice D1 a.seen.length e1] 30)) (.cells #[.int .i64 b.pid, .int .i64 b.ep, .int .i64 b.nx, .slice D2 b.seen.length e2] 30))
  have EQ := Lib.hid (fun W (h : Below w.heap.size w W) => EqualN_any D1 D2 a.seen b.seen e1 e2 _ _ W ((h1.below h).more h.size) ((h2.below h).more h.size) hl)
  have HA := Lib.hid (show samePd a b = (decide (a.pid = b.pid) && (decide (a.ep = b.ep) && (decide (a.nx = b.nx) && decide (a.seen = b.seen)))) from rfl)
  clear h1 h2
  have q1 : (a.pid == b.pid) = decide (a.pid = b.pid) := by rw [Bool.eq_iff_iff]; simp
  have q2 : (a.ep == b.ep) = decide (a.ep = b.ep) := by rw [Bool.eq_iff_iff]; simp
  have q3 : (a.nx == b.nx) = decide (a.nx = b.nx) := by rw [Bool.eq_iff_iff]; simp
  generalize decide (a.pid = b.pid) = d1 at *
  generalize decide (a.ep = b.ep) = d2 at *
  generalize decide (a.nx = b.nx) = d3 at *
  generalize decide (a.seen = b.seen) = d6 at *
  go_enter Tryz.func19, Tryz.ntmps19
  cases d1
  · go_wp2_with fail
    go_ret
    exact ⟨ret_bool (by rw [HA.out]; rfl), HB.out⟩
  cases d2
  · go_wp2_with fail
    go_ret
    exact ⟨ret_bool (by rw [HA.out]; rfl), HB.out⟩
  cases d3
  · go_wp2_with fail
    go_ret
    exact ⟨ret_bool (by rw [HA.out]; rfl), HB.out⟩
  go_wp2_with fail
  refine (EQ.out _ HB.out).mono ?_
  rintro e w1 ⟨rfl, q, rfl⟩
  go_wp2_with fail
  go_ret
  exact ⟨ret_bool (by rw [HA.out]; rfl), below_drewN HB.out _⟩
end Go.Proofs.YtckdecodpjfcnaaGreatDoor
namespace Go.Proofs.YtckdecodpjfcnaaGreatDoor
open Go.RowKit

/-- What is known of an entry that was handed in: its rows in memory. -/
def EnR (w : World) (x : En) (A D : Option Addr) : Prop := Reads w w.heap.size 2 A x.b.rs.length (cellsR x.b.rs) ∧ Reads w w.heap.size 3 D x.prod.seen.length (cellsN x.prod.seen) ∧ x.b.rs.length ≤ 1000000 ∧ x.prod.seen.length ≤ 1000000
theorem EnR.up {w W : World} {x : En} {A D : Option Addr} (h : EnR w x A D) (k : Below w.heap.size w W) : EnR W x A D := ⟨(h.1.below k).more k.size, (h.2.1.below k).more k.size, h.2.2⟩
theorem enR_base (w : World) (kd : Int) : EnR w (baseEn kd) none none := ⟨Reads.none_, Reads.none_, Nat.zero_le _, Nat.zero_le _⟩

set_option maxRecDepth 100000 in
set_option maxHeartbeats 4000000 in
theorem EnSame_any (a b : En) (A1 D1 A2 D2 : Option Addr) (c1 e1 c2 e2 : Nat) (w : World) (h1 : EnR w a A1 D1) (h2 : EnR w b A2 D2) :
    Calls Tryz.prog 15 #[(.agg #[.int .i8 a.kd, .int .i64 a.b.pid, .int .i64 a.b.ep, .int .i64 a.b.seq, .bool a.b.txn, .slice A1 a.b.rs.length c1, .bool a.yes, .int .i64 a.nx, .int .i64 a.off, .int .i64 a.row.1, .int .i64 a.row.2.1, .int .i64 a.row.2.2.1, .string a.row.2.2.2.1, .string a.row.2.2.2.2, .int .i64 a.prod.pid, .int .i64 a.prod.ep, .int .i64 a.prod.nx, .slice D1 a.prod.seen.length e1]), (.agg #[.int .i8 b.kd, .int .i64 b.b.pid, .int .i64 b.b.ep, .int .i64 b.b.seq, .bool b.b.txn, .slice A2 b.b.rs.length c2, .bool b.yes, .int .i64 b.nx, .int .i64 b.off, .int .i64 b.row.1, .int .i64 b.row.2.1, .int .i64 b.row.2.2.1, .string b.row.2.2.2.1, .string b.row.2.2.2.2, .int .i64 b.prod.pid, .int .i64 b.prod.ep, .int .i64 b.prod.nx, .slice D2 b.prod.seen.length e2])] w fun e w' => e = .returned (.bool (sameEn a b)) ∧ Below w.heap.size w w' := by
  have HB := Lib.hid (bal (bal (Below.refl w.heap.size w) (.cells #[.int .i8 a.kd, .int .i64 a.b.pid, .int .i64 a.b.ep, .int .i64 a.b.seq, .bool a.b.txn, .slice A1 a.b.rs.length c1, .bool a.yes, .int .i64 a.nx, .int .i64 a.off, .int .i64 a.row.1, .int .i64 a.row.2.1, .int .i64 a.row.2.2.1, .string a.row.2.2.2.1, .string a.row.2.2.2.2, .int .i64 a.prod.pid, .int .i64 a.prod.ep, .int .i64 a.prod.nx, .slice D1 a.prod.seen.length e1] 32)) (.cells #[.int .i8 b.kd, .int .i64 b.b.pid, .int .i64 b.b.ep, .int .i64 b.b.seq, .bool b.b.txn, .slice A2 b.b.rs.length c2, .bool b.yes, .int .i64 b.nx, .int .i64 b.off, .int .i64 b.row.1, .int .i64 b.row.2.1, .int .i64 b.row.2.2.1, .string b.row.2.2.2.1, .string b.row.2.2.2.2, .int .i64 b.prod.pid, .int .i64 b.prod.ep, .int .i64 b.prod.nx, .slice D2 b.prod.seen.length e2] 32))
  have KA := Lib.hid ((Blk.new w 32 #[.int .i8 a.kd, .int .i64 a.b.pid, .int .i64 a.b.ep, .int .i64 a.b.seq, .bool a.b.txn, .slice A1 a.b.rs.length c1, .bool a.yes, .int .i64 a.nx, .int .i64 a.off, .int .i64 a.row.1, .int .i64 a.row.2.1, .int .i64 a.row.2.2.1, .string a.row.2.2.2.1, .string a.row.2.2.2.2, .int .i64 a.prod.pid, .int .i64 a.prod.ep, .int .i64 a.prod.nx, .slice D1 a.prod.seen.length e1]).alloc (.cells #[.int .i8 b.kd, .int .i64 b.b.pid, .int .i64 b.b.ep, .int .i64 b.b.seq, .bool b.b.txn, .slice A2 b.b.rs.length c2, .bool b.yes, .int .i64 b.nx, .int .i64 b.off, .int .i64 b.row.1, .int .i64 b.row.2.1, .int .i64 b.row.2.2.1, .string b.row.2.2.2.1, .string b.row.2.2.2.2, .int .i64 b.prod.pid, .int .i64 b.prod.ep, .int .i64 b.prod.nx, .slice D2 b.prod.seen.length e2] 32))
  have KB := Lib.hid (blk_new (w.alloc (.cells #[.int .i8 a.kd, .int .i64 a.b.pid, .int .i64 a.b.ep, .int .i64 a.b.seq, .bool a.b.txn, .slice A1 a.b.rs.length c1, .bool a.yes, .int .i64 a.nx, .int .i64 a.off, .int .i64 a.row.1, .int .i64 a.row.2.1, .int .i64 a.row.2.2.1, .string a.row.2.2.2.1, .string a.row.2.2.2.2, .int .i64 a.prod.pid, .int .i64 a.prod.ep, .int .i64 a.prod.nx, .slice D1 a.prod.seen.length e1] 32)) 32 #[.int .i8 b.kd, .int .i64 b.b.pid, .int .i64 b.b.ep, .int .i64 b.b.seq, .bool b.b.txn, .slice A2 b.b.rs.length c2, .bool b.yes, .int .i64 b.nx, .int .i64 b.off, .int .i64 b.row.1, .int .i64 b.row.2.1, .int .i64 b.row.2.2.1, .string b.row.2.2.2.1, .string b.row.2.2.2.2, .int .i64 b.prod.pid, .int .i64 b.prod.ep, .int .i64 b.prod.nx, .slice D2 b.prod.seen.length e2] (g := w.heap.size + 1) (by simp))
  have RS := Lib.hid (fun W (h : Below w.heap.size w W) => RcSame_any a.b b.b A1 A2 c1 c2 W (h1.up h).1 (h2.up h).1 h1.2.2.1)
  have PS := Lib.hid (fun W (h : Below w.heap.size w W) => SamePd_any a.prod b.prod D1 D2 e1 e2 W (h1.up h).2.1 (h2.up h).2.1 h1.2.2.2)
  have HA := Lib.hid (show sameEn a b = (decide (a.kd = b.kd) && (sameBt a.b b.b && ((a.yes == b.yes) && (decide (a.nx = b.nx) && (decide (a.off = b.off) && (decide (a.row = b.row) && samePd a.prod b.prod)))))) from rfl)
  have heq := fun W => eqRw7 a.row b.row W
  have hm : Tryz.prog.eqGuardType Tryz.prog.depth 27 = false := by kernel_rfl
  clear h1 h2
  have q1 : (a.kd == b.kd) = decide (a.kd = b.kd) := by rw [Bool.eq_iff_iff]; simp
  have q2 : (a.nx == b.nx) = decide (a.nx = b.nx) := by rw [Bool.eq_iff_iff]; simp
  have q3 : (a.off == b.off) = decide (a.off = b.off) := by rw [Bool.eq_iff_iff]; simp
  generalize decide (a.kd = b.kd) = d1 at *
  generalize sameBt a.b b.b = d2 at *
  generalize hy : (a.yes == b.yes) = d3 at *
  generalize decide (a.nx = b.nx) = d4 at *
  generalize decide (a.off = b.off) = d5 at *
  generalize decide (a.row = b.row) = d6 at *
  generalize samePd a.prod b.prod = d7 at *
  go_enter Tryz.func15, Tryz.ntmps15
  cases d1
  · go_wp2_with fail
    go_ret
    exact ⟨ret_bool (by rw [HA.out]; rfl), HB.out⟩
  have x1 := KA.out.cell 1
  have x2 := KA.out.cell 2
  have x3 := KA.out.cell 3
  have x4 := KA.out.cell 4
  have x5 := KA.out.cell 5
  have y1 := KB.out.cell 1
  have y2 := KB.out.cell 2
  have y3 := KB.out.cell 3
  have y4 := KB.out.cell 4
  have y5 := KB.out.cell 5
  go_wp2_with fail
  refine (RS.out _ HB.out).mono ?_
  rintro e w1 ⟨rfl, b1⟩
  have ka := KA.out.below b1 (by simp; omega)
  have kb := KB.out.below b1 (by simp)
  have B1 := Lib.hid (btrans HB.out b1)
  clear b1 x1 x2 x3 x4 x5 y1 y2 y3 y4 y5
  have x6 := ka.cell 6
  have x7 := ka.cell 7
  have x8 := ka.cell 8
  have x9 := ka.cell 9
  have x10 := ka.cell 10
  have x11 := ka.cell 11
  have x12 := ka.cell 12
  have x13 := ka.cell 13
  have x14 := ka.cell 14
  have x15 := ka.cell 15
  have x16 := ka.cell 16
  have x17 := ka.cell 17
  have y6 := kb.cell 6
  have y7 := kb.cell 7
  have y8 := kb.cell 8
  have y9 := kb.cell 9
  have y10 := kb.cell 10
  have y11 := kb.cell 11
  have y12 := kb.cell 12
  have y13 := kb.cell 13
  have y14 := kb.cell 14
  have y15 := kb.cell 15
  have y16 := kb.cell 16
  have y17 := kb.cell 17
  clear ka kb
  cases d2
  · go_wp2_with fail
    go_ret
    exact ⟨ret_bool (by rw [HA.out]; rfl), B1.out⟩
  cases d3
  · go_wp2_with fail
    go_ret
    exact ⟨ret_bool (by rw [HA.out]; rfl), B1.out⟩
  cases d4
  · go_wp2_with fail
    go_ret
    exact ⟨ret_bool (by rw [HA.out]; rfl), B1.out⟩
  cases d5
  · go_wp2_with fail
    go_ret
    exact ⟨ret_bool (by rw [HA.out]; rfl), B1.out⟩
  cases d6
  · go_wp2_with fail
    go_ret
    exact ⟨ret_bool (by rw [HA.out]; rfl), B1.out⟩
  go_wp2_with fail
  refine (PS.out _ B1.out).mono ?_
  rintro e w2 ⟨rfl, b2⟩
  go_wp2_with fail
  go_ret
  exact ⟨ret_bool (by rw [HA.out]; rfl), btrans B1.out b2⟩
end Go.Proofs.YtckdecodpjfcnaaGreatDoor
namespace Go.Proofs.YtckdecodpjfcnaaGreatDoor
open Go.RowKit

/-- The cells of a block after stores from o on. -/
def setAll (cs : Array Value) : Nat → List Value → Array Value
  | _, [] => cs
  | o, v :: r => setAll (cs.setIfInBounds o v) (o + 1) r
theorem setAll_pre : ∀ (vs zs pre : List Value), zs.length = vs.length → setAll (pre ++ zs).toArray pre.length vs = (pre ++ vs).toArray
  | [], zs, pre, h => by
    rw [List.length_eq_zero_iff.1 h]
    rfl
  | v :: vs, [], pre, h => by simp at h
  | v :: vs, z :: zs, pre, h => by
    rw [setAll]
    have e : (pre ++ z :: zs).toArray.setIfInBounds pre.length v = ((pre ++ [v]) ++ zs).toArray := by
      rw [List.setIfInBounds_toArray]
      congr 1
      rw [List.set_append_right _ _ (Nat.le_refl _)]
      simp
    rw [e]
    have := setAll_pre vs zs (pre ++ [v]) (by simpa using h)
    rw [List.length_append, List.length_singleton] at this
    rw [this]
    simp
theorem setAll_all (zs cs : Array Value) (h : zs.size = cs.size) : setAll zs 0 cs.toList = cs := by
  have := setAll_pre cs.toList zs.toList [] (by simpa using h)
  simpa using this
theorem blk_setCells {b : Nat} {t : TypeId} : ∀ (vs : List Value) (o : Nat) (W : World) (cs : Array Value), Blk W b t cs → Blk (W.setCells b o vs) b t (setAll cs o vs)
  | [], _, _, _, h => h
  | v :: r, o, W, cs, h => by
    rw [World.setCells]
    exact blk_setCells r (o + 1) _ _ (h.set_ o v)
theorem blk_setCells_far {b b' : Nat} {t : TypeId} {cs : Array Value} (hb : b ≠ b') : ∀ (vs : List Value) (o : Nat) (W : World), Blk W b t cs → Blk (W.setCells b' o vs) b t cs
  | [], _, _, h => h
  | v :: r, o, W, h => by
    rw [World.setCells]
    exact blk_setCells_far hb r (o + 1) _ (h.far (p := ⟨b', o, none⟩) hb v)
theorem below_setCells {n b : Nat} {w : World} (hb : n ≤ b) : ∀ (vs : List Value) (o : Nat) (W : World), Below n w W → Below n w (W.setCells b o vs)
  | [], _, _, h => h
  | v :: r, o, W, h => by
    rw [World.setCells]
    exact below_setCells hb r (o + 1) _ (h.setCell (p := ⟨b, o, none⟩) hb v)
theorem size_setCells (b : Nat) : ∀ (vs : List Value) (o : Nat) (W : World), (W.setCells b o vs).heap.size = W.heap.size
  | [], _, _ => rfl
  | v :: r, o, W => by
    rw [World.setCells, size_setCells b r (o + 1)]
    simp
theorem blk_range {W : World} {b : Nat} {t : TypeId} {cs : List Value} (h : Blk W b t cs.toArray) : W.rangeAt b 0 cs := fun j v hv => by
  rw [Nat.zero_add, h.cell j]
  simpa using hv
theorem blk_there {W : World} {b : Nat} {t : TypeId} {cs : Array Value} (h : Blk W b t cs) : W.there b 0 cs.size := fun j hj => by
  rw [Nat.zero_add]
  exact ⟨by rw [h.cell j]; simp [hj], h.frozen j⟩
theorem infoEn : (Tryz.prog.info? 32).map (·.size) = some 18 := by kernel_rfl
/-- A struct that lies in a block, loaded. -/
theorem load_blk {W : World} {b : Nat} {cs : List Value} (h : Blk W b 32 cs.toArray) (hn : cs.length = 18) : (loadVar 32 ⟨b, 0, none⟩).run Tryz.prog W = .ok (.agg cs.toArray) W :=
  run_loadVar_mid W b 0 32 cs _ (blk_range h) Tryz.underlying32 rfl (by rw [infoEn, hn])
/-- A struct stored into a block. -/
theorem store_blk {W : World} {b : Nat} {cs zs : Array Value} (h : Blk W b 32 zs) (hz : zs.size = 18) (hn : cs.size = 18) (h1 : cs.all (·.oneCell') = true) :
    ∃ W', (storeVar 32 ⟨b, 0, none⟩ (.agg cs)).run Tryz.prog W = .ok () W' ∧ Blk W' b 32 cs ∧ W'.heap.size = W.heap.size ∧ (∀ n (w : World), n ≤ b → Below n w W → Below n w W') ∧ ∀ g t ds, g ≠ b → Blk W g t ds → Blk W' g t ds :=
  ⟨_, run_storeVar_mid W b 0 32 cs (by have := blk_there h; rw [hz] at this; rw [hn]; exact this) (by rw [infoEn, hn]) h1, (by have := blk_setCells cs.toList 0 _ _ h; rw [setAll_all zs cs (by rw [hz, hn])] at this; exact this), size_setCells .., fun n w hb hB => below_setCells hb _ _ _ hB, fun g t ds hg hk => blk_setCells_far hg _ _ _ hk⟩

section
variable {P : Program} {ops : Array Oper} {rest : List Oper} {op : Oper} {a : Act} {w w' : World} {Q : Exit → Act → World → Prop}
theorem wpList_load_eq (hgd : op.guard = none) (ty : TypeId) (x : Operand) (ho : op.op = .load ty x) (b o : Nat) (hx : a.eval x = .pointer (some ⟨b, o, none⟩)) (v : Value) (hrun : (loadVar ty ⟨b, o, none⟩).run P w = .ok v w)
    (h : wpList P ops Q rest (a.put op.dst v) w) : wpList P ops Q (op :: rest) a w :=
  wpList_plain hgd fun _ hK => by
    unfold Oper.wp execOp
    simp only [ho, hx, Instr.loadAt, Instr.sureAddr, Sem.run_bind, Sem.run_pure, Result.andThen_ok, hrun]
    exact hK _ _ h
theorem wpList_load_on (hw : Region.wanted op (yielded ops a.tmps) = true) (ty : TypeId) (x : Operand) (ho : op.op = .load ty x) (b o : Nat) (hx : a.eval x = .pointer (some ⟨b, o, none⟩)) (v : Value) (hrun : (loadVar ty ⟨b, o, none⟩).run P w = .ok v w)
    (h : wpList P ops Q rest (a.put op.dst v) w) : wpList P ops Q (op :: rest) a w :=
  wpList_step fun K hK => by
    rw [if_pos hw]
    unfold Oper.wp execOp
    simp only [ho, hx, Instr.loadAt, Instr.sureAddr, Sem.run_bind, Sem.run_pure, Result.andThen_ok, hrun]
    exact hK _ _ h
theorem wpList_move (hgd : op.guard = none) (x : Operand) (ho : op.op = .move x) (h : wpList P ops Q rest (a.put op.dst (a.eval x)) w) : wpList P ops Q (op :: rest) a w :=
  wpList_plain hgd fun _ hK => by
    unfold Oper.wp execOp
    simp only [ho, Sem.run_bind, Sem.run_pure, Result.andThen_ok]
    exact hK _ _ h
theorem wpList_alloc_eq (hgd : op.guard = none) (ty : TypeId) (ho : op.op = .alloc ty) (v : Value) (hrun : (Instr.alloc ty true (.tuple #[])).run P w = .ok v w')
    (h : wpList P ops Q rest (a.put op.dst v) w') : wpList P ops Q (op :: rest) a w :=
  wpList_plain hgd fun _ hK => by
    unfold Oper.wp execOp
    simp only [ho, Sem.run_bind, Sem.run_pure, Result.andThen_ok, hrun]
    exact hK _ _ h
theorem wpList_store_eq (hgd : op.guard = none) (ty : TypeId) (x y : Operand) (ho : op.op = .store ty x y) (b o : Nat) (hx : a.eval x = .pointer (some ⟨b, o, none⟩)) (v : Value) (hy : a.eval y = v) (hrun : (storeVar ty ⟨b, o, none⟩ v).run P w = .ok () w')
    (h : wpList P ops Q rest (a.put op.dst undef) w') : wpList P ops Q (op :: rest) a w :=
  wpList_plain hgd fun _ hK => by
    unfold Oper.wp execOp
    simp only [ho, hx, hy, Instr.storeAt, Instr.sureAddr, Sem.run_bind, Sem.run_pure, Result.andThen_ok, hrun]
    exact hK _ _ h
end
abbrev ezero : Array Value := #[.int .i8 0, .int .i64 0, .int .i64 0, .int .i64 0, .bool false, .slice none 0 0, .bool false, .int .i64 0, .int .i64 0, .int .i64 0, .int .i64 0, .int .i64 0, .string ⟨#[]⟩, .string ⟨#[]⟩, .int .i64 0, .int .i64 0, .int .i64 0, .slice none 0 0]
theorem alloc_en (w : World) : (Instr.alloc 32 true (.tuple #[])).run Tryz.prog w = .ok (.pointer (some ⟨w.heap.size, 0, none⟩)) (w.alloc (.cells ezero 32)) := by
  simp [go_sem, ezero]
end Go.Proofs.YtckdecodpjfcnaaGreatDoor
