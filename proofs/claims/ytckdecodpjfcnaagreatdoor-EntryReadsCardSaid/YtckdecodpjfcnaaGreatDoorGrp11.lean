/-
  Layer 6: equal lists of records; batches that are the same.
-/
import Derived.Test.YtckdecodpjfcnaaGreatDoorGrp10
set_option linter.unusedVariables false
set_option linter.unusedSimpArgs false
namespace Go.Proofs.YtckdecodpjfcnaaGreatDoor
open Go.RowKit

set_option maxRecDepth 100000 in
set_option maxHeartbeats 1000000 in
theorem EqualR_any (A1 A2 : Option Addr) (l1 l2 : List Rec) (c1 c2 B1 B2 : Nat) (w : World) (h1 : Reads w B1 2 A1 l1.length (cellsR l1)) (h2 : Reads w B2 2 A2 l2.length (cellsR l2)) (hl : l1.length ≤ 1000000) :
    Calls Tryz.prog 72 #[.slice A1 l1.length c1, .slice A2 l2.length c2] w fun e w' => e = .returned (.bool (decide (l1 = l2))) ∧ ∃ q, w' = w.drewN q := by
  have hm : Tryz.prog.eqGuardType Tryz.prog.depth 60 = false := by kernel_rfl
  by_cases hlen : l1.length = l2.length
  · have d0 : ((l1.length : Int) != (l2.length : Int)) = false := by rw [hlen]; simp
    have HH1 := Lib.hid h1
    have HH2 := Lib.hid h2
    have HLEN := Lib.hid hlen
    have hl2 : l1.length ≤ l2.length := by omega
    have hl3 : l2.length ≤ l1.length := by omega
    clear h1 h2 hlen
    go_enter Tryz.func72, Tryz.ntmps72
    go_wp2_with fail
    go_loopw [13] (fun y wr => ∃ k q : Nat, k ≤ l1.length ∧ y = .int .i64 k ∧ wr = w.drewN q ∧ l1.take k = l2.take k) (fun y _ => l1.length - (intOf y).toNat)
    case atStart => exact ⟨0, 0, Nat.zero_le _, rfl, rfl, by simp⟩
    case round =>
      obtain ⟨k, q, hk, rfl, rfl, htk⟩ := hrel
      have HTK := Lib.hid htk
      clear htk
      by_cases hlt : k < l1.length
      · have d1 : decide ((k : Int) < (l1.length : Int)) = true := by simp; omega
        obtain ⟨b1, o1, rfl, _, hc1⟩ := HH1.out.plain2 (by omega)
        obtain ⟨b2, o2, rfl, _, hc2⟩ := HH2.out.plain2 (by omega)
        obtain ⟨x, hx⟩ : ∃ z, l1[k]? = some z := ⟨_, List.getElem?_eq_getElem hlt⟩
        obtain ⟨y, hy⟩ : ∃ z, l2[k]? = some z := ⟨_, List.getElem?_eq_getElem (by omega)⟩
        obtain ⟨g1, g2⟩ := hc1 k _ hx
        obtain ⟨g4, g5⟩ := hc2 k _ hy
        have heq := fun W => eqRec x y W
        have i1 : (0 : Int) ≤ (k : Int) := by omega
        have i2 : (k : Int) < (l1.length : Int) := by omega
        have i3 : (k : Int) < (l2.length : Int) := by omega
        have hts := take_snoc_eq HTK.out hx hy
        have HTS := Lib.hid hts
        have HX := Lib.hid hx
        have HY := Lib.hid hy
        clear hc1 hc2 hx hy hts
        by_cases hxy : x = y
        · have HXY := Lib.hid hxy
          rw [decide_eq_true hxy] at heq
          clear hxy
          go_wp2_with fail
          go_quiet (fail)
          go_wp2_with fail
          go_roundw
          case rel => exact ⟨k + 1, _, by omega, by go_num, rfl, HTS.out.2 HXY.out⟩
          case measure => simp [intOf]; omega
        · rw [decide_eq_false hxy] at heq
          have hne : l1 ≠ l2 := ne_of_at HX.out HY.out hxy
          have hf : decide (l1 = l2) = false := by simpa using hne
          have HF := Lib.hid hf
          clear hne hf hxy
          go_wp2_with fail
          go_quiet (fail)
          go_wp2_with fail
          go_ret
          exact ⟨by rw [HF.out]; rfl, _, World.drewN_drewN ..⟩
      · obtain rfl : k = l1.length := by omega
        have d1 : decide ((l1.length : Int) < (l1.length : Int)) = false := by simp
        have he : l1 = l2 := by
          have h3 := HTK.out
          rw [List.take_length, HLEN.out, List.take_length] at h3
          exact h3
        have hf : decide (l1 = l2) = true := by simpa using he
        have HF := Lib.hid hf
        clear he hf
        go_wp2_with fail
        go_ret
        exact ⟨by rw [HF.out]; rfl, _, rfl⟩
  · have d0 : ((l1.length : Int) != (l2.length : Int)) = true := by simp; omega
    have hne : ¬ l1 = l2 := fun h => hlen (by rw [h])
    have hf : decide (l1 = l2) = false := by simpa using hne
    have HF := Lib.hid hf
    clear hf hne hlen h1 h2
    go_enter Tryz.func72, Tryz.ntmps72
    go_wp2_with fail
    go_ret
    exact ⟨by rw [HF.out]; rfl, 0, rfl⟩
set_option maxRecDepth 100000 in
set_option maxHeartbeats 1000000 in
theorem RcSame_pid (a b : Bat) (A1 A2 : Option Addr) (c1 c2 : Nat) (w : World) (h1 : Reads w w.heap.size 2 A1 a.rs.length (cellsR a.rs)) (h2 : Reads w w.heap.size 2 A2 b.rs.length (cellsR b.rs)) (hl : a.rs.length ≤ 1000000)  (hpid : ¬ a.pid = b.pid) :
    Calls Tryz.prog 44 #[(.agg #[.int .i64 a.pid, .int .i64 a.ep, .int .i64 a.seq, .bool a.txn, .slice A1 a.rs.length c1]), (.agg #[.int .i64 b.pid, .int .i64 b.ep, .int .i64 b.seq, .bool b.txn, .slice A2 b.rs.length c2])] w fun e w' => e = .returned (.bool (sameBt a b)) ∧ Below w.heap.size w w' := by
  have hfin : sameBt a b = false := by
    rw [← Bool.not_eq_true, sameBt_iff]; rintro rfl; exact hpid rfl
  have HF := Lib.hid hfin
  have d0 : (a.pid == b.pid) = false := eqb_false hpid
  have HB := Lib.hid (fun x y => bal (bal (Below.refl w.heap.size w) x) y)
  clear h1 h2 hfin hpid
  go_enter Tryz.func44, Tryz.ntmps44
  go_wp2_with fail
  go_ret
  exact ⟨ret_bool HF.out.symm, HB.out _ _⟩
set_option maxRecDepth 100000 in
set_option maxHeartbeats 1000000 in
theorem RcSame_ep (a b : Bat) (A1 A2 : Option Addr) (c1 c2 : Nat) (w : World) (h1 : Reads w w.heap.size 2 A1 a.rs.length (cellsR a.rs)) (h2 : Reads w w.heap.size 2 A2 b.rs.length (cellsR b.rs)) (hl : a.rs.length ≤ 1000000) (hpid : a.pid = b.pid) (hep : ¬ a.ep = b.ep) :
    Calls Tryz.prog 44 #[(.agg #[.int .i64 a.pid, .int .i64 a.ep, .int .i64 a.seq, .bool a.txn, .slice A1 a.rs.length c1]), (.agg #[.int .i64 b.pid, .int .i64 b.ep, .int .i64 b.seq, .bool b.txn, .slice A2 b.rs.length c2])] w fun e w' => e = .returned (.bool (sameBt a b)) ∧ Below w.heap.size w w' := by
  have hfin : sameBt a b = false := by
    rw [← Bool.not_eq_true, sameBt_iff]; rintro rfl; exact hep rfl
  have HF := Lib.hid hfin
  have d0 : (a.pid == b.pid) = true := eqb_true hpid
  have d1 : (a.ep == b.ep) = false := eqb_false hep
  have HB := Lib.hid (fun x y => bal (bal (Below.refl w.heap.size w) x) y)
  clear h1 h2 hfin hpid hep
  go_enter Tryz.func44, Tryz.ntmps44
  go_wp2_with fail
  go_ret
  exact ⟨ret_bool HF.out.symm, HB.out _ _⟩
set_option maxRecDepth 100000 in
set_option maxHeartbeats 1000000 in
theorem RcSame_seq (a b : Bat) (A1 A2 : Option Addr) (c1 c2 : Nat) (w : World) (h1 : Reads w w.heap.size 2 A1 a.rs.length (cellsR a.rs)) (h2 : Reads w w.heap.size 2 A2 b.rs.length (cellsR b.rs)) (hl : a.rs.length ≤ 1000000) (hpid : a.pid = b.pid) (hep : a.ep = b.ep) (hseq : ¬ a.seq = b.seq) :
    Calls Tryz.prog 44 #[(.agg #[.int .i64 a.pid, .int .i64 a.ep, .int .i64 a.seq, .bool a.txn, .slice A1 a.rs.length c1]), (.agg #[.int .i64 b.pid, .int .i64 b.ep, .int .i64 b.seq, .bool b.txn, .slice A2 b.rs.length c2])] w fun e w' => e = .returned (.bool (sameBt a b)) ∧ Below w.heap.size w w' := by
  have hfin : sameBt a b = false := by
    rw [← Bool.not_eq_true, sameBt_iff]; rintro rfl; exact hseq rfl
  have HF := Lib.hid hfin
  have d0 : (a.pid == b.pid) = true := eqb_true hpid
  have d1 : (a.ep == b.ep) = true := eqb_true hep
  have d2 : (a.seq == b.seq) = false := eqb_false hseq
  have HB := Lib.hid (fun x y => bal (bal (Below.refl w.heap.size w) x) y)
  clear h1 h2 hfin hpid hep hseq
  go_enter Tryz.func44, Tryz.ntmps44
  go_wp2_with fail
  go_ret
  exact ⟨ret_bool HF.out.symm, HB.out _ _⟩
set_option maxRecDepth 100000 in
set_option maxHeartbeats 1000000 in
theorem RcSame_txn (a b : Bat) (A1 A2 : Option Addr) (c1 c2 : Nat) (w : World) (h1 : Reads w w.heap.size 2 A1 a.rs.length (cellsR a.rs)) (h2 : Reads w w.heap.size 2 A2 b.rs.length (cellsR b.rs)) (hl : a.rs.length ≤ 1000000) (hpid : a.pid = b.pid) (hep : a.ep = b.ep) (hseq : a.seq = b.seq) (htxn : ¬ a.txn = b.txn) :
    Calls Tryz.prog 44 #[(.agg #[.int .i64 a.pid, .int .i64 a.ep, .int .i64 a.seq, .bool a.txn, .slice A1 a.rs.length c1]), (.agg #[.int .i64 b.pid, .int .i64 b.ep, .int .i64 b.seq, .bool b.txn, .slice A2 b.rs.length c2])] w fun e w' => e = .returned (.bool (sameBt a b)) ∧ Below w.heap.size w w' := by
  have hfin : sameBt a b = false := by
    rw [← Bool.not_eq_true, sameBt_iff]; rintro rfl; exact htxn rfl
  have HF := Lib.hid hfin
  have d0 : (a.pid == b.pid) = true := eqb_true hpid
  have d1 : (a.ep == b.ep) = true := eqb_true hep
  have d2 : (a.seq == b.seq) = true := eqb_true hseq
  have d3 : (a.txn == b.txn) = false := by cases h : a.txn <;> cases h' : b.txn <;> simp_all
  have HB := Lib.hid (fun x y => bal (bal (Below.refl w.heap.size w) x) y)
  clear h1 h2 hfin hpid hep hseq htxn
  go_enter Tryz.func44, Tryz.ntmps44
  go_wp2_with fail
  go_ret
  exact ⟨ret_bool HF.out.symm, HB.out _ _⟩
set_option maxRecDepth 100000 in
set_option maxHeartbeats 1000000 in
theorem RcSame_eq (a b : Bat) (A1 A2 : Option Addr) (c1 c2 : Nat) (w : World) (h1 : Reads w w.heap.size 2 A1 a.rs.length (cellsR a.rs)) (h2 : Reads w w.heap.size 2 A2 b.rs.length (cellsR b.rs)) (hl : a.rs.length ≤ 1000000) (hpid : a.pid = b.pid) (hep : a.ep = b.ep) (hseq : a.seq = b.seq) (htxn : a.txn = b.txn) :
    Calls Tryz.prog 44 #[(.agg #[.int .i64 a.pid, .int .i64 a.ep, .int .i64 a.seq, .bool a.txn, .slice A1 a.rs.length c1]), (.agg #[.int .i64 b.pid, .int .i64 b.ep, .int .i64 b.seq, .bool b.txn, .slice A2 b.rs.length c2])] w fun e w' => e = .returned (.bool (sameBt a b)) ∧ Below w.heap.size w w' := by
  have hfin : sameBt a b = decide (a.rs = b.rs) := by
    unfold sameBt; simp [hpid, hep, hseq, htxn]
  have HF := Lib.hid hfin
  have d0 : (a.pid == b.pid) = true := eqb_true hpid
  have d1 : (a.ep == b.ep) = true := eqb_true hep
  have d2 : (a.seq == b.seq) = true := eqb_true hseq
  have d3 : (a.txn == b.txn) = true := by rw [htxn]; simp
  have HB := Lib.hid (fun x y => bal (bal (Below.refl w.heap.size w) x) y)
  have HE := Lib.hid (EqualR_any A1 A2 a.rs b.rs c1 c2 w.heap.size w.heap.size ((w.alloc (.cells #[.int .i64 a.pid, .int .i64 a.ep, .int .i64 a.seq, .bool a.txn, .slice A1 a.rs.length c1] 25)).alloc (.cells #[.int .i64 b.pid, .int .i64 b.ep, .int .i64 b.seq, .bool b.txn, .slice A2 b.rs.length c2] 25)) ((h1.alloc (Nat.le_refl _) _).alloc (by simp) _) ((h2.alloc (Nat.le_refl _) _).alloc (by simp) _) hl)
  clear h1 h2 hfin hpid hep hseq htxn
  go_enter Tryz.func44, Tryz.ntmps44
  go_wp2_with fail
  refine HE.out.mono ?_
  rintro e w1 ⟨rfl, q, rfl⟩
  go_wp2_with fail
  go_ret
  exact ⟨ret_bool HF.out.symm, below_drewN (HB.out _ _) _⟩
theorem RcSame_any (a b : Bat) (A1 A2 : Option Addr) (c1 c2 : Nat) (w : World) (h1 : Reads w w.heap.size 2 A1 a.rs.length (cellsR a.rs)) (h2 : Reads w w.heap.size 2 A2 b.rs.length (cellsR b.rs)) (hl : a.rs.length ≤ 1000000) :
    Calls Tryz.prog 44 #[(.agg #[.int .i64 a.pid, .int .i64 a.ep, .int .i64 a.seq, .bool a.txn, .slice A1 a.rs.length c1]), (.agg #[.int .i64 b.pid, .int .i64 b.ep, .int .i64 b.seq, .bool b.txn, .slice A2 b.rs.length c2])] w fun e w' => e = .returned (.bool (sameBt a b)) ∧ Below w.heap.size w w' := by
  by_cases hpid : a.pid = b.pid
  · by_cases hep : a.ep = b.ep
    · by_cases hseq : a.seq = b.seq
      · by_cases htxn : a.txn = b.txn
        · exact RcSame_eq a b A1 A2 c1 c2 w h1 h2 hl hpid hep hseq htxn
        · exact RcSame_txn a b A1 A2 c1 c2 w h1 h2 hl hpid hep hseq htxn
      · exact RcSame_seq a b A1 A2 c1 c2 w h1 h2 hl hpid hep hseq
    · exact RcSame_ep a b A1 A2 c1 c2 w h1 h2 hl hpid hep
  · exact RcSame_pid a b A1 A2 c1 c2 w h1 h2 hl hpid
set_option maxRecDepth 100000 in
set_option maxHeartbeats 1000000 in
theorem rRcSame_pid (a b : Bat) (A1 A2 : Option Addr) (c1 c2 : Nat) (w : World) (h1 : Reads w w.heap.size 2 A1 a.rs.length (cellsR a.rs)) (h2 : Reads w w.heap.size 2 A2 b.rs.length (cellsR b.rs)) (hl : a.rs.length ≤ 1000000)  (hpid : ¬ a.pid = b.pid) :
    Calls Tryz.prog 45 #[(.agg #[.int .i64 a.pid, .int .i64 a.ep, .int .i64 a.seq, .bool a.txn, .slice A1 a.rs.length c1]), (.agg #[.int .i64 b.pid, .int .i64 b.ep, .int .i64 b.seq, .bool b.txn, .slice A2 b.rs.length c2])] w fun e w' => e = .returned (.bool (sameBt a b)) ∧ Below w.heap.size w w' := by
  have hfin : sameBt a b = false := by
    rw [← Bool.not_eq_true, sameBt_iff]; rintro rfl; exact hpid rfl
  have HF := Lib.hid hfin
  have d0 : (a.pid != b.pid) = true := ne_true hpid
  have HB := Lib.hid (fun x y => bal (bal (Below.refl w.heap.size w) x) y)
  clear h1 h2 hfin hpid
  go_enter Tryz.func45, Tryz.ntmps45
  go_wp2_with fail
  go_ret
  exact ⟨ret_bool HF.out.symm, HB.out _ _⟩
set_option maxRecDepth 100000 in
set_option maxHeartbeats 1000000 in
theorem rRcSame_ep (a b : Bat) (A1 A2 : Option Addr) (c1 c2 : Nat) (w : World) (h1 : Reads w w.heap.size 2 A1 a.rs.length (cellsR a.rs)) (h2 : Reads w w.heap.size 2 A2 b.rs.length (cellsR b.rs)) (hl : a.rs.length ≤ 1000000) (hpid : a.pid = b.pid) (hep : ¬ a.ep = b.ep) :
    Calls Tryz.prog 45 #[(.agg #[.int .i64 a.pid, .int .i64 a.ep, .int .i64 a.seq, .bool a.txn, .slice A1 a.rs.length c1]), (.agg #[.int .i64 b.pid, .int .i64 b.ep, .int .i64 b.seq, .bool b.txn, .slice A2 b.rs.length c2])] w fun e w' => e = .returned (.bool (sameBt a b)) ∧ Below w.heap.size w w' := by
  have hfin : sameBt a b = false := by
    rw [← Bool.not_eq_true, sameBt_iff]; rintro rfl; exact hep rfl
  have HF := Lib.hid hfin
  have d0 : (a.pid != b.pid) = false := ne_false hpid
  have d1 : (a.ep != b.ep) = true := ne_true hep
  have HB := Lib.hid (fun x y => bal (bal (Below.refl w.heap.size w) x) y)
  clear h1 h2 hfin hpid hep
  go_enter Tryz.func45, Tryz.ntmps45
  go_wp2_with fail
  go_ret
  exact ⟨ret_bool HF.out.symm, HB.out _ _⟩
set_option maxRecDepth 100000 in
set_option maxHeartbeats 1000000 in
theorem rRcSame_seq (a b : Bat) (A1 A2 : Option Addr) (c1 c2 : Nat) (w : World) (h1 : Reads w w.heap.size 2 A1 a.rs.length (cellsR a.rs)) (h2 : Reads w w.heap.size 2 A2 b.rs.length (cellsR b.rs)) (hl : a.rs.length ≤ 1000000) (hpid : a.pid = b.pid) (hep : a.ep = b.ep) (hseq : ¬ a.seq = b.seq) :
    Calls Tryz.prog 45 #[(.agg #[.int .i64 a.pid, .int .i64 a.ep, .int .i64 a.seq, .bool a.txn, .slice A1 a.rs.length c1]), (.agg #[.int .i64 b.pid, .int .i64 b.ep, .int .i64 b.seq, .bool b.txn, .slice A2 b.rs.length c2])] w fun e w' => e = .returned (.bool (sameBt a b)) ∧ Below w.heap.size w w' := by
  have hfin : sameBt a b = false := by
    rw [← Bool.not_eq_true, sameBt_iff]; rintro rfl; exact hseq rfl
  have HF := Lib.hid hfin
  have d0 : (a.pid != b.pid) = false := ne_false hpid
  have d1 : (a.ep != b.ep) = false := ne_false hep
  have d2 : (a.seq != b.seq) = true := ne_true hseq
  have HB := Lib.hid (fun x y => bal (bal (Below.refl w.heap.size w) x) y)
  clear h1 h2 hfin hpid hep hseq
  go_enter Tryz.func45, Tryz.ntmps45
  go_wp2_with fail
  go_ret
  exact ⟨ret_bool HF.out.symm, HB.out _ _⟩
set_option maxRecDepth 100000 in
set_option maxHeartbeats 1000000 in
theorem rRcSame_txn (a b : Bat) (A1 A2 : Option Addr) (c1 c2 : Nat) (w : World) (h1 : Reads w w.heap.size 2 A1 a.rs.length (cellsR a.rs)) (h2 : Reads w w.heap.size 2 A2 b.rs.length (cellsR b.rs)) (hl : a.rs.length ≤ 1000000) (hpid : a.pid = b.pid) (hep : a.ep = b.ep) (hseq : a.seq = b.seq) (htxn : ¬ a.txn = b.txn) :
    Calls Tryz.prog 45 #[(.agg #[.int .i64 a.pid, .int .i64 a.ep, .int .i64 a.seq, .bool a.txn, .slice A1 a.rs.length c1]), (.agg #[.int .i64 b.pid, .int .i64 b.ep, .int .i64 b.seq, .bool b.txn, .slice A2 b.rs.length c2])] w fun e w' => e = .returned (.bool (sameBt a b)) ∧ Below w.heap.size w w' := by
  have hfin : sameBt a b = false := by
    rw [← Bool.not_eq_true, sameBt_iff]; rintro rfl; exact htxn rfl
  have HF := Lib.hid hfin
  have d0 : (a.pid != b.pid) = false := ne_false hpid
  have d1 : (a.ep != b.ep) = false := ne_false hep
  have d2 : (a.seq != b.seq) = false := ne_false hseq
  have d3 : (a.txn == b.txn) = false := by cases h : a.txn <;> cases h' : b.txn <;> simp_all
  have HB := Lib.hid (fun x y => bal (bal (Below.refl w.heap.size w) x) y)
  clear h1 h2 hfin hpid hep hseq htxn
  go_enter Tryz.func45, Tryz.ntmps45
  go_wp2_with fail
  go_ret
  exact ⟨ret_bool HF.out.symm, HB.out _ _⟩
set_option maxRecDepth 100000 in
set_option maxHeartbeats 1000000 in
theorem rRcSame_eq (a b : Bat) (A1 A2 : Option Addr) (c1 c2 : Nat) (w : World) (h1 : Reads w w.heap.size 2 A1 a.rs.length (cellsR a.rs)) (h2 : Reads w w.heap.size 2 A2 b.rs.length (cellsR b.rs)) (hl : a.rs.length ≤ 1000000) (hpid : a.pid = b.pid) (hep : a.ep = b.ep) (hseq : a.seq = b.seq) (htxn : a.txn = b.txn) :
    Calls Tryz.prog 45 #[(.agg #[.int .i64 a.pid, .int .i64 a.ep, .int .i64 a.seq, .bool a.txn, .slice A1 a.rs.length c1]), (.agg #[.int .i64 b.pid, .int .i64 b.ep, .int .i64 b.seq, .bool b.txn, .slice A2 b.rs.length c2])] w fun e w' => e = .returned (.bool (sameBt a b)) ∧ Below w.heap.size w w' := by
  have hfin : sameBt a b = decide (a.rs = b.rs) := by
    unfold sameBt; simp [hpid, hep, hseq, htxn]
  have HF := Lib.hid hfin
  have d0 : (a.pid != b.pid) = false := ne_false hpid
  have d1 : (a.ep != b.ep) = false := ne_false hep
  have d2 : (a.seq != b.seq) = false := ne_false hseq
  have d3 : (a.txn == b.txn) = true := by rw [htxn]; simp
  have HB := Lib.hid (fun x y => bal (bal (Below.refl w.heap.size w) x) y)
  by_cases hlen : a.rs.length = b.rs.length
  · have d5 : ((a.rs.length : Int) != (b.rs.length : Int)) = false := by rw [hlen]; simp
    have HH1 := Lib.hid ((h1.alloc (Nat.le_refl _) (.cells #[.int .i64 a.pid, .int .i64 a.ep, .int .i64 a.seq, .bool a.txn, .slice A1 a.rs.length c1] 25)).alloc (by simp) (.cells #[.int .i64 b.pid, .int .i64 b.ep, .int .i64 b.seq, .bool b.txn, .slice A2 b.rs.length c2] 25))
    have HH2 := Lib.hid ((h2.alloc (Nat.le_refl _) (.cells #[.int .i64 a.pid, .int .i64 a.ep, .int .i64 a.seq, .bool a.txn, .slice A1 a.rs.length c1] 25)).alloc (by simp) (.cells #[.int .i64 b.pid, .int .i64 b.ep, .int .i64 b.seq, .bool b.txn, .slice A2 b.rs.length c2] 25))
    have HLEN := Lib.hid hlen
    have hl2 : a.rs.length ≤ b.rs.length := by omega
    have hl3 : b.rs.length ≤ a.rs.length := by omega
    have x4 := ((Blk.new w 25 #[.int .i64 a.pid, .int .i64 a.ep, .int .i64 a.seq, .bool a.txn, .slice A1 a.rs.length c1]).alloc (.cells #[.int .i64 b.pid, .int .i64 b.ep, .int .i64 b.seq, .bool b.txn, .slice A2 b.rs.length c2] 25)).cell 4
    have kk := Blk.new (w.alloc (.cells #[.int .i64 a.pid, .int .i64 a.ep, .int .i64 a.seq, .bool a.txn, .slice A1 a.rs.length c1] 25)) 25 #[.int .i64 b.pid, .int .i64 b.ep, .int .i64 b.seq, .bool b.txn, .slice A2 b.rs.length c2]
    rw [World.size_alloc] at kk
    have y4 := kk.cell 4
    have HB2 := Lib.hid (HB.out (.cells #[.int .i64 a.pid, .int .i64 a.ep, .int .i64 a.seq, .bool a.txn, .slice A1 a.rs.length c1] 25) (.cells #[.int .i64 b.pid, .int .i64 b.ep, .int .i64 b.seq, .bool b.txn, .slice A2 b.rs.length c2] 25))
    have hm : Tryz.prog.eqGuardType Tryz.prog.depth 60 = false := by kernel_rfl
    clear h1 h2 hlen hfin hpid hep hseq htxn kk HB
    go_enter Tryz.func45, Tryz.ntmps45
    go_wp2_with fail
    generalize hW : (w.alloc (.cells #[.int .i64 a.pid, .int .i64 a.ep, .int .i64 a.seq, .bool a.txn, .slice A1 a.rs.length c1] 25)).alloc (.cells #[.int .i64 b.pid, .int .i64 b.ep, .int .i64 b.seq, .bool b.txn, .slice A2 b.rs.length c2] 25) = W at *
    clear hW
    go_loopw [5] (fun y wr => ∃ k q : Nat, k ≤ a.rs.length ∧ y = .int .i64 k ∧ wr = W.drewN q ∧ a.rs.take k = b.rs.take k) (fun y _ => a.rs.length - (intOf y).toNat)
    case atStart => exact ⟨0, 0, Nat.zero_le _, rfl, rfl, by simp⟩
    case round =>
      obtain ⟨k, q, hk, rfl, rfl, htk⟩ := hrel
      have HTK := Lib.hid htk
      clear htk
      by_cases hlt : k < a.rs.length
      · have d1' : decide ((k : Int) < (a.rs.length : Int)) = true := by simp; omega
        obtain ⟨b1, o1, rfl, _, hc1⟩ := HH1.out.plain2 (by omega)
        obtain ⟨b2, o2, rfl, _, hc2⟩ := HH2.out.plain2 (by omega)
        obtain ⟨x, hx⟩ : ∃ z, a.rs[k]? = some z := ⟨_, List.getElem?_eq_getElem hlt⟩
        obtain ⟨y, hy⟩ : ∃ z, b.rs[k]? = some z := ⟨_, List.getElem?_eq_getElem (by omega)⟩
        obtain ⟨g1, g2⟩ := hc1 k _ hx
        obtain ⟨g4, g5⟩ := hc2 k _ hy
        have heq := fun W => eqRec x y W
        have i1 : (0 : Int) ≤ (k : Int) := by omega
        have i2 : (k : Int) < (a.rs.length : Int) := by omega
        have i3 : (k : Int) < (b.rs.length : Int) := by omega
        have HTS := Lib.hid (take_snoc_eq HTK.out hx hy)
        have HX := Lib.hid hx
        have HY := Lib.hid hy
        clear hc1 hc2 hx hy
        by_cases hxy : x = y
        · have HXY := Lib.hid hxy
          rw [decide_eq_true hxy] at heq
          clear hxy
          go_wp2_with fail
          go_quiet (fail)
          go_wp2_with fail
          go_roundw
          case rel => exact ⟨k + 1, _, by omega, by go_num, rfl, HTS.out.2 HXY.out⟩
          case measure => simp [intOf]; omega
        · rw [decide_eq_false hxy] at heq
          have hne : a.rs ≠ b.rs := ne_of_at HX.out HY.out hxy
          have HN := Lib.hid (decide_eq_false hne)
          clear hne hxy
          go_wp2_with fail
          go_quiet (fail)
          go_wp2_with fail
          go_ret
          exact ⟨ret_bool (by rw [HF.out, HN.out]), below_drewN (below_drewN HB2.out _) _⟩
      · obtain rfl : k = a.rs.length := by omega
        have d1' : decide ((a.rs.length : Int) < (a.rs.length : Int)) = false := by simp
        have he : a.rs = b.rs := by
          have h3 := HTK.out
          rw [List.take_length, HLEN.out, List.take_length] at h3
          exact h3
        have HN := Lib.hid (decide_eq_true he)
        clear he
        go_wp2_with fail
        go_ret
        exact ⟨ret_bool (by rw [HF.out, HN.out]), below_drewN HB2.out _⟩
  · have d5 : ((a.rs.length : Int) != (b.rs.length : Int)) = true := by simp; omega
    have hne : ¬ a.rs = b.rs := fun h => hlen (by rw [h])
    have HN := Lib.hid (decide_eq_false hne)
    clear h1 h2 hlen hfin hpid hep hseq htxn hne
    go_enter Tryz.func45, Tryz.ntmps45
    go_wp2_with fail
    go_ret
    exact ⟨ret_bool (by rw [HF.out, HN.out]), HB.out _ _⟩
theorem rRcSame_any (a b : Bat) (A1 A2 : Option Addr) (c1 c2 : Nat) (w : World) (h1 : Reads w w.heap.size 2 A1 a.rs.length (cellsR a.rs)) (h2 : Reads w w.heap.size 2 A2 b.rs.length (cellsR b.rs)) (hl : a.rs.length ≤ 1000000) :
    Calls Tryz.prog 45 #[(.agg #[.int .i64 a.pid, .int .i64 a.ep, .int .i64 a.seq, .bool a.txn, .slice A1 a.rs.length c1]), (.agg #[.int .i64 b.pid, .int .i64 b.ep, .int .i64 b.seq, .bool b.txn, .slice A2 b.rs.length c2])] w fun e w' => e = .returned (.bool (sameBt a b)) ∧ Below w.heap.size w w' := by
  by_cases hpid : a.pid = b.pid
  · by_cases hep : a.ep = b.ep
    · by_cases hseq : a.seq = b.seq
      · by_cases htxn : a.txn = b.txn
        · exact rRcSame_eq a b A1 A2 c1 c2 w h1 h2 hl hpid hep hseq htxn
        · exact rRcSame_txn a b A1 A2 c1 c2 w h1 h2 hl hpid hep hseq htxn
      · exact rRcSame_seq a b A1 A2 c1 c2 w h1 h2 hl hpid hep hseq
    · exact rRcSame_ep a b A1 A2 c1 c2 w h1 h2 hl hpid hep
  · exact rRcSame_pid a b A1 A2 c1 c2 w h1 h2 hl hpid
end Go.Proofs.YtckdecodpjfcnaaGreatDoor
