/-
  Layer 7, the document's: May of entries.
  Layer 7, the document's: SameProd, Same, small functions.
  Layer 7, the document's: Known.
  Layer 7, the document's: bare: an entry with the fields that its kind names alone; which entries may be, in the document's words.
-/
import Derived.Test.YtckdecodpjfcnaaGreatDoorGrp19
import Derived.Test.YtckdecodpjfcnaaGreatDoorGrp30
import Derived.Test.YtckdecodpjfcnaaGreatDoorGrp22
set_option linter.unusedVariables false
set_option linter.unusedSimpArgs false
namespace Go.Proofs.YtckdecodpjfcnaaGreatDoor
open Go.RowKit

set_option maxRecDepth 100000 in
set_option maxHeartbeats 1000000 in
theorem rSamePd_any (a b : Pd) (D1 D2 : Option Addr) (e1 e2 : Nat) (w : World) (h1 : Reads w w.heap.size 3 D1 a.seen.length (cellsN a.seen)) (h2 : Reads w w.heap.size 3 D2 b.seen.length (cellsN b.seen)) (hl : a.seen.length ≤ 1000000) :
    Calls Tryz.prog 20 #[(.agg #[.int .i64 a.pid, .int .i64 a.ep, .int .i64 a.nx, .slice D1 a.seen.length e1]), (.agg #[.int .i64 b.pid, .int .i64 b.ep, .int .i64 b.nx, .slice D2 b.seen.length e2])] w fun e w' => e = .returned (.bool (samePd a b)) ∧ Below w.heap.size w w' := by
  have HA := Lib.hid (show samePd a b = (decide (a.pid = b.pid) && (decide (a.ep = b.ep) && (decide (a.nx = b.nx) && decide (a.seen = b.seen)))) from rfl)
  have HB := Lib.hid (bal (bal (Below.refl w.heap.size w) (.cells #[.int .i64 a.pid, .int .i64 a.ep, .int .i64 a.nx, .slice D1 a.seen.length e1] 30)) (.cells #[.int .i64 b.pid, .int .i64 b.ep, .int .i64 b.nx, .slice D2 b.seen.length e2] 30))
  by_cases hpid : a.pid = b.pid
  case neg =>
    have d0 : (a.pid != b.pid) = true := ne_true hpid
    have HF := Lib.hid (show samePd a b = false by rw [HA.out, decide_eq_false hpid]; rfl)
    clear h1 h2 hpid
    go_enter Tryz.func20, Tryz.ntmps20
    go_wp2_with fail
    go_ret
    exact ⟨ret_bool HF.out.symm, HB.out⟩
  have d0 : (a.pid != b.pid) = false := ne_false hpid
  by_cases hep : a.ep = b.ep
  case neg =>
    have d1 : (a.ep != b.ep) = true := ne_true hep
    have HF := Lib.hid (show samePd a b = false by rw [HA.out, decide_eq_false hep]; simp)
    clear h1 h2 hpid hep
    go_enter Tryz.func20, Tryz.ntmps20
    go_wp2_with fail
    go_ret
    exact ⟨ret_bool HF.out.symm, HB.out⟩
  have d1 : (a.ep != b.ep) = false := ne_false hep
  by_cases hnx : a.nx = b.nx
  case neg =>
    have d2 : (a.nx != b.nx) = true := ne_true hnx
    have HF := Lib.hid (show samePd a b = false by rw [HA.out, decide_eq_false hnx]; simp)
    clear h1 h2 hpid hep hnx
    go_enter Tryz.func20, Tryz.ntmps20
    go_wp2_with fail
    go_ret
    exact ⟨ret_bool HF.out.symm, HB.out⟩
  have d2 : (a.nx != b.nx) = false := ne_false hnx
  have HF := Lib.hid (show samePd a b = decide (a.seen = b.seen) by rw [HA.out, decide_eq_true hpid, decide_eq_true hep, decide_eq_true hnx]; rfl)
  by_cases hlen : a.seen.length = b.seen.length
  · have d5 : ((a.seen.length : Int) != (b.seen.length : Int)) = false := by rw [hlen]; simp
    have HH1 := Lib.hid ((h1.alloc (Nat.le_refl _) (.cells #[.int .i64 a.pid, .int .i64 a.ep, .int .i64 a.nx, .slice D1 a.seen.length e1] 30)).alloc (by simp) (.cells #[.int .i64 b.pid, .int .i64 b.ep, .int .i64 b.nx, .slice D2 b.seen.length e2] 30))
    have HH2 := Lib.hid ((h2.alloc (Nat.le_refl _) (.cells #[.int .i64 a.pid, .int .i64 a.ep, .int .i64 a.nx, .slice D1 a.seen.length e1] 30)).alloc (by simp) (.cells #[.int .i64 b.pid, .int .i64 b.ep, .int .i64 b.nx, .slice D2 b.seen.length e2] 30))
    have HLEN := Lib.hid hlen
    have hl2 : a.seen.length ≤ b.seen.length := by omega
    have hl3 : b.seen.length ≤ a.seen.length := by omega
    have x3 := ((Blk.new w 30 #[.int .i64 a.pid, .int .i64 a.ep, .int .i64 a.nx, .slice D1 a.seen.length e1]).alloc (.cells #[.int .i64 b.pid, .int .i64 b.ep, .int .i64 b.nx, .slice D2 b.seen.length e2] 30)).cell 3
    have kk := Blk.new (w.alloc (.cells #[.int .i64 a.pid, .int .i64 a.ep, .int .i64 a.nx, .slice D1 a.seen.length e1] 30)) 30 #[.int .i64 b.pid, .int .i64 b.ep, .int .i64 b.nx, .slice D2 b.seen.length e2]
    rw [World.size_alloc] at kk
    have y3 := kk.cell 3
    have hm : Tryz.prog.eqGuardType Tryz.prog.depth 73 = false := by kernel_rfl
    clear h1 h2 hlen hpid hep hnx kk
    go_enter Tryz.func20, Tryz.ntmps20
    go_wp2_with fail
    generalize hW : (w.alloc (.cells #[.int .i64 a.pid, .int .i64 a.ep, .int .i64 a.nx, .slice D1 a.seen.length e1] 30)).alloc (.cells #[.int .i64 b.pid, .int .i64 b.ep, .int .i64 b.nx, .slice D2 b.seen.length e2] 30) = W at *
    clear hW
    go_loopw [5] (fun y wr => ∃ k q : Nat, k ≤ a.seen.length ∧ y = .int .i64 k ∧ wr = W.drewN q ∧ a.seen.take k = b.seen.take k) (fun y _ => a.seen.length - (intOf y).toNat)
    case atStart => exact ⟨0, 0, Nat.zero_le _, rfl, rfl, by simp⟩
    case round =>
      obtain ⟨k, q, hk, rfl, rfl, htk⟩ := hrel
      have HTK := Lib.hid htk
      clear htk
      by_cases hlt : k < a.seen.length
      · have d1' : decide ((k : Int) < (a.seen.length : Int)) = true := by simp; omega
        obtain ⟨b1, o1, rfl, _, hc1⟩ := HH1.out.plain3 (by omega)
        obtain ⟨b2, o2, rfl, _, hc2⟩ := HH2.out.plain3 (by omega)
        obtain ⟨x, hx⟩ : ∃ z, a.seen[k]? = some z := ⟨_, List.getElem?_eq_getElem hlt⟩
        obtain ⟨y, hy⟩ : ∃ z, b.seen[k]? = some z := ⟨_, List.getElem?_eq_getElem (by omega)⟩
        obtain ⟨g1, g2, g3⟩ := hc1 k _ hx
        obtain ⟨g4, g5, g6⟩ := hc2 k _ hy
        have heq := fun W => eqSn x y W
        have i1 : (0 : Int) ≤ (k : Int) := by omega
        have i2 : (k : Int) < (a.seen.length : Int) := by omega
        have i3 : (k : Int) < (b.seen.length : Int) := by omega
        have HTS := Lib.hid (take_snoc_eq HTK.out hx hy)
        have HX := Lib.hid hx
        have HY := Lib.hid hy
        clear hc1 hc2 hx hy
        by_cases hxy : x = y
        · have HXY := Lib.hid hxy
          rw [decide_eq_true hxy] at heq
          clear hxy
          go_wp2_with fail
          go_quiet (fail)
          go_wp2_with fail
          go_roundw
          case rel => exact ⟨k + 1, _, by omega, by go_num, rfl, HTS.out.2 HXY.out⟩
          case measure => simp [intOf]; omega
        · rw [decide_eq_false hxy] at heq
          have hne : a.seen ≠ b.seen := ne_of_at HX.out HY.out hxy
          have HN := Lib.hid (decide_eq_false hne)
          clear hne hxy
          go_wp2_with fail
          go_quiet (fail)
          go_wp2_with fail
          go_ret
          exact ⟨ret_bool (by rw [HF.out, HN.out]), below_drewN (below_drewN HB.out _) _⟩
      · obtain rfl : k = a.seen.length := by omega
        have d1' : decide ((a.seen.length : Int) < (a.seen.length : Int)) = false := by simp
        have he : a.seen = b.seen := by
          have h3 := HTK.out
          rw [List.take_length, HLEN.out, List.take_length] at h3
          exact h3
        have HN := Lib.hid (decide_eq_true he)
        clear he
        go_wp2_with fail
        go_ret
        exact ⟨ret_bool (by rw [HF.out, HN.out]), below_drewN HB.out _⟩
  · have d5 : ((a.seen.length : Int) != (b.seen.length : Int)) = true := by simp; omega
    have hne : ¬ a.seen = b.seen := fun h => hlen (by rw [h])
    have HN := Lib.hid (decide_eq_false hne)
    clear h1 h2 hlen hpid hep hnx hne
    go_enter Tryz.func20, Tryz.ntmps20
    go_wp2_with fail
    go_ret
    exact ⟨ret_bool (by rw [HF.out, HN.out]), HB.out⟩

set_option maxRecDepth 100000 in
set_option maxHeartbeats 4000000 in
theorem rEnSame_any (a b : En) (A1 D1 A2 D2 : Option Addr) (c1 e1 c2 e2 : Nat) (w : World) (h1 : EnR w a A1 D1) (h2 : EnR w b A2 D2) :
    Calls Tryz.prog 16 #[(.agg #[.int .i8 a.kd, .int .i64 a.b.pid, .int .i64 a.b.ep, .int .i64 a.b.seq, .bool a.b.txn, .slice A1 a.b.rs.length c1, .bool a.yes, .int .i64 a.nx, .int .i64 a.off, .int .i64 a.row.1, .int .i64 a.row.2.1, .int .i64 a.row.2.2.1, .string a.row.2.2.2.1, .string a.row.2.2.2.2, .int .i64 a.prod.pid, .int .i64 a.prod.ep, .int .i64 a.prod.nx, .slice D1 a.prod.seen.length e1]), (.agg #[.int .i8 b.kd, .int .i64 b.b.pid, .int .i64 b.b.ep, .int .i64 b.b.seq, .bool b.b.txn, .slice A2 b.b.rs.length c2, .bool b.yes, .int .i64 b.nx, .int .i64 b.off, .int .i64 b.row.1, .int .i64 b.row.2.1, .int .i64 b.row.2.2.1, .string b.row.2.2.2.1, .string b.row.2.2.2.2, .int .i64 b.prod.pid, .int .i64 b.prod.ep, .int .i64 b.prod.nx, .slice D2 b.prod.seen.length e2])] w fun e w' => e = .returned (.bool (sameEn a b)) ∧ Below w.heap.size w w' := by
  have HB := Lib.hid (bal (bal (Below.refl w.heap.size w) (.cells #[.int .i8 a.kd, .int .i64 a.b.pid, .int .i64 a.b.ep, .int .i64 a.b.seq, .bool a.b.txn, .slice A1 a.b.rs.length c1, .bool a.yes, .int .i64 a.nx, .int .i64 a.off, .int .i64 a.row.1, .int .i64 a.row.2.1, .int .i64 a.row.2.2.1, .string a.row.2.2.2.1, .string a.row.2.2.2.2, .int .i64 a.prod.pid, .int .i64 a.prod.ep, .int .i64 a.prod.nx, .slice D1 a.prod.seen.length e1] 32)) (.cells #[.int .i8 b.kd, .int .i64 b.b.pid, .int .i64 b.b.ep, .int .i64 b.b.seq, .bool b.b.txn, .slice A2 b.b.rs.length c2, .bool b.yes, .int .i64 b.nx, .int .i64 b.off, .int .i64 b.row.1, .int .i64 b.row.2.1, .int .i64 b.row.2.2.1, .string b.row.2.2.2.1, .string b.row.2.2.2.2, .int .i64 b.prod.pid, .int .i64 b.prod.ep, .int .i64 b.prod.nx, .slice D2 b.prod.seen.length e2] 32))
  have KA := Lib.hid ((Blk.new w 32 #[.int .i8 a.kd, .int .i64 a.b.pid, .int .i64 a.b.ep, .int .i64 a.b.seq, .bool a.b.txn, .slice A1 a.b.rs.length c1, .bool a.yes, .int .i64 a.nx, .int .i64 a.off, .int .i64 a.row.1, .int .i64 a.row.2.1, .int .i64 a.row.2.2.1, .string a.row.2.2.2.1, .string a.row.2.2.2.2, .int .i64 a.prod.pid, .int .i64 a.prod.ep, .int .i64 a.prod.nx, .slice D1 a.prod.seen.length e1]).alloc (.cells #[.int .i8 b.kd, .int .i64 b.b.pid, .int .i64 b.b.ep, .int .i64 b.b.seq, .bool b.b.txn, .slice A2 b.b.rs.length c2, .bool b.yes, .int .i64 b.nx, .int .i64 b.off, .int .i64 b.row.1, .int .i64 b.row.2.1, .int .i64 b.row.2.2.1, .string b.row.2.2.2.1, .string b.row.2.2.2.2, .int .i64 b.prod.pid, .int .i64 b.prod.ep, .int .i64 b.prod.nx, .slice D2 b.prod.seen.length e2] 32))
  have KB := Lib.hid (blk_new (w.alloc (.cells #[.int .i8 a.kd, .int .i64 a.b.pid, .int .i64 a.b.ep, .int .i64 a.b.seq, .bool a.b.txn, .slice A1 a.b.rs.length c1, .bool a.yes, .int .i64 a.nx, .int .i64 a.off, .int .i64 a.row.1, .int .i64 a.row.2.1, .int .i64 a.row.2.2.1, .string a.row.2.2.2.1, .string a.row.2.2.2.2, .int .i64 a.prod.pid, .int .i64 a.prod.ep, .int .i64 a.prod.nx, .slice D1 a.prod.seen.length e1] 32)) 32 #[.int .i8 b.kd, .int .i64 b.b.pid, .int .i64 b.b.ep, .int .i64 b.b.seq, .bool b.b.txn, .slice A2 b.b.rs.length c2, .bool b.yes, .int .i64 b.nx, .int .i64 b.off, .int .i64 b.row.1, .int .i64 b.row.2.1, .int .i64 b.row.2.2.1, .string b.row.2.2.2.1, .string b.row.2.2.2.2, .int .i64 b.prod.pid, .int .i64 b.prod.ep, .int .i64 b.prod.nx, .slice D2 b.prod.seen.length e2] (g := w.heap.size + 1) (by simp))
  have RS := Lib.hid (fun W (h : Below w.heap.size w W) => rRcSame_any a.b b.b A1 A2 c1 c2 W (h1.up h).1 (h2.up h).1 h1.2.2.1)
  have PS := Lib.hid (fun W (h : Below w.heap.size w W) => rSamePd_any a.prod b.prod D1 D2 e1 e2 W (h1.up h).2.1 (h2.up h).2.1 h1.2.2.2)
  have HA := Lib.hid (show sameEn a b = (decide (a.kd = b.kd) && (sameBt a.b b.b && ((a.yes == b.yes) && (decide (a.nx = b.nx) && (decide (a.off = b.off) && (decide (a.row = b.row) && samePd a.prod b.prod)))))) from rfl)
  have heq := fun W => eqRw7 a.row b.row W
  have hm : Tryz.prog.eqGuardType Tryz.prog.depth 27 = false := by kernel_rfl
  clear h1 h2
  have q1 : (a.kd == b.kd) = decide (a.kd = b.kd) := by rw [Bool.eq_iff_iff]; simp
  have q2 : (a.nx == b.nx) = decide (a.nx = b.nx) := by rw [Bool.eq_iff_iff]; simp
  have q3 : (a.off == b.off) = decide (a.off = b.off) := by rw [Bool.eq_iff_iff]; simp
  generalize decide (a.kd = b.kd) = d1 at *
  generalize sameBt a.b b.b = d2 at *
  generalize hy : (a.yes == b.yes) = d3 at *
  generalize decide (a.nx = b.nx) = d4 at *
  generalize decide (a.off = b.off) = d5 at *
  generalize decide (a.row = b.row) = d6 at *
  generalize samePd a.prod b.prod = d7 at *
  go_enter Tryz.func16, Tryz.ntmps16
  cases d1
  · go_wp2_with fail
    go_ret
    exact ⟨ret_bool (by rw [HA.out]; rfl), HB.out⟩
  have x1 := KA.out.cell 1
  have x2 := KA.out.cell 2
  have x3 := KA.out.cell 3
  have x4 := KA.out.cell 4
  have x5 := KA.out.cell 5
  have y1 := KB.out.cell 1
  have y2 := KB.out.cell 2
  have y3 := KB.out.cell 3
  have y4 := KB.out.cell 4
  have y5 := KB.out.cell 5
  go_wp2_with fail
  refine (RS.out _ HB.out).mono ?_
  rintro e w1 ⟨rfl, b1⟩
  have ka := KA.out.below b1 (by simp; omega)
  have kb := KB.out.below b1 (by simp)
  have B1 := Lib.hid (btrans HB.out b1)
  clear b1 x1 x2 x3 x4 x5 y1 y2 y3 y4 y5
  have x6 := ka.cell 6
  have x7 := ka.cell 7
  have x8 := ka.cell 8
  have x9 := ka.cell 9
  have x10 := ka.cell 10
  have x11 := ka.cell 11
  have x12 := ka.cell 12
  have x13 := ka.cell 13
  have x14 := ka.cell 14
  have x15 := ka.cell 15
  have x16 := ka.cell 16
  have x17 := ka.cell 17
  have y6 := kb.cell 6
  have y7 := kb.cell 7
  have y8 := kb.cell 8
  have y9 := kb.cell 9
  have y10 := kb.cell 10
  have y11 := kb.cell 11
  have y12 := kb.cell 12
  have y13 := kb.cell 13
  have y14 := kb.cell 14
  have y15 := kb.cell 15
  have y16 := kb.cell 16
  have y17 := kb.cell 17
  clear ka kb
  cases d2
  · go_wp2_with fail
    go_ret
    exact ⟨ret_bool (by rw [HA.out]; rfl), B1.out⟩
  cases d3
  · go_wp2_with fail
    go_ret
    exact ⟨ret_bool (by rw [HA.out]; rfl), B1.out⟩
  cases d4
  · go_wp2_with fail
    go_ret
    exact ⟨ret_bool (by rw [HA.out]; rfl), B1.out⟩
  cases d5
  · go_wp2_with fail
    go_ret
    exact ⟨ret_bool (by rw [HA.out]; rfl), B1.out⟩
  cases d6
  · go_wp2_with fail
    go_ret
    exact ⟨ret_bool (by rw [HA.out]; rfl), B1.out⟩
  go_wp2_with fail
  refine (PS.out _ B1.out).mono ?_
  rintro e w2 ⟨rfl, b2⟩
  go_wp2_with fail
  go_ret
  exact ⟨ret_bool (by rw [HA.out]; rfl), btrans B1.out b2⟩

set_option maxRecDepth 100000 in
theorem rproducer_any (p e : Int) (w : World) : Calls Tryz.prog 41 #[.int .i64 p, .int .i64 e] w fun x w' => x = .returned (.bool (prodB p e)) ∧ w = w' := by
  have HP := Lib.hid (show prodB p e = (decide (1 ≤ p ∧ p ≤ 8) && decide (0 ≤ e ∧ e ≤ 100)) from rfl)
  go_enter Tryz.func41, Tryz.ntmps41
  by_cases h1 : 1 ≤ p
  · by_cases h2 : p ≤ 8
    · by_cases h3 : 0 ≤ e
      · by_cases h4 : e ≤ 100
        · go_wp2_with fail
          go_ret
          exact ⟨ret_bool (by rw [HP.out]; simp [h1, h2, h3, h4]), rfl⟩
        · go_wp2_with fail
          go_ret
          exact ⟨ret_bool (by rw [HP.out]; simp [h4]), rfl⟩
      · go_wp2_with fail
        go_ret
        have h9 : ¬ 0 ≤ e := by omega
        exact ⟨ret_bool (by rw [HP.out]; simp [h9]), rfl⟩
    · go_wp2_with fail
      go_ret
      exact ⟨ret_bool (by rw [HP.out, decide_eq_false (show ¬ (1 ≤ p ∧ p ≤ 8) by omega)]; rfl), rfl⟩
  · go_wp2_with fail
    go_ret
    have h9 : ¬ 1 ≤ p := by omega
    exact ⟨ret_bool (by rw [HP.out]; simp [h9]), rfl⟩
theorem within_any (x l m : Int) (w : World) : Calls Tryz.prog 42 #[.int .i64 x, .int .i64 l, .int .i64 m] w fun e w' => e = .returned (.bool (decide (l ≤ x ∧ x ≤ m))) ∧ w = w' := by
  go_enter Tryz.func42, Tryz.ntmps42
  by_cases h1 : l ≤ x
  · by_cases h2 : x ≤ m
    · go_wp2_with fail
      go_ret
      exact ⟨ret_bool (by simp [h1, h2]), rfl⟩
    · go_wp2_with fail
      go_ret
      exact ⟨ret_bool (by simp [h2]), rfl⟩
  · go_wp2_with fail
    go_ret
    have h9 : ¬ l ≤ x := by omega
    exact ⟨ret_bool (by simp [h9]), rfl⟩
set_option maxRecDepth 100000 in
set_option maxHeartbeats 1000000 in
/-- A row that may be, but for its offset. -/
theorem MayRow_any (r : Rw) (w : World) : Calls Tryz.prog 43 #[(.agg #[.int .i64 r.1, .int .i64 r.2.1, .int .i64 r.2.2.1, .string r.2.2.2.1, .string r.2.2.2.2])] w fun e w' => e = .returned (.bool (rowB (0, r.2.1, r.2.2.1, r.2.2.2.1, r.2.2.2.2))) ∧ Below w.heap.size w w' := by
  have HB := Lib.hid (fun x => bal (Below.refl w.heap.size w) x)
  have W1 := Lib.hid (fun W => within_any r.2.1 1 8 W)
  have W2 := Lib.hid (fun W => within_any r.2.2.1 0 1048575 W)
  have HV := Lib.hid (show rowB (0, r.2.1, r.2.2.1, r.2.2.2.1, r.2.2.2.2) = (decide (1 ≤ r.2.1 ∧ r.2.1 ≤ 8) && (decide (0 ≤ r.2.2.1 ∧ r.2.2.1 ≤ 1048575) && (decide ((r.2.2.2.1.size : Int) ≤ 16) && decide ((r.2.2.2.2.size : Int) ≤ 16)))) by
    have e1 : decide (0 ≤ r.2.2.1 ∧ r.2.2.1 < 1048576) = decide (0 ≤ r.2.2.1 ∧ r.2.2.1 ≤ 1048575) := by rw [decide_eq_decide]; omega
    have e2 : decide (r.2.2.2.1.size ≤ 16) = decide ((r.2.2.2.1.size : Int) ≤ 16) := by rw [decide_eq_decide]; omega
    have e3 : decide (r.2.2.2.2.size ≤ 16) = decide ((r.2.2.2.2.size : Int) ≤ 16) := by rw [decide_eq_decide]; omega
    unfold rowB
    simp only [e1, e2, e3, decide_true, Bool.true_and])
  generalize rowB (0, r.2.1, r.2.2.1, r.2.2.2.1, r.2.2.2.2) = R at *
  generalize decide (1 ≤ r.2.1 ∧ r.2.1 ≤ 8) = d1 at *
  generalize decide (0 ≤ r.2.2.1 ∧ r.2.2.1 ≤ 1048575) = d2 at *
  go_enter Tryz.func43, Tryz.ntmps43
  go_wp2_with fail
  refine (W1.out _).mono ?_
  rintro e w1 ⟨rfl, rfl⟩
  cases d1
  · go_wp2_with fail
    go_ret
    exact ⟨ret_bool (by rw [HV.out]; rfl), HB.out _⟩
  go_wp2_with fail
  refine (W2.out _).mono ?_
  rintro e w2 ⟨rfl, rfl⟩
  cases d2
  · go_wp2_with fail
    go_ret
    exact ⟨ret_bool (by rw [HV.out]; rfl), HB.out _⟩
  generalize hd3 : decide ((r.2.2.2.1.size : Int) ≤ 16) = d3 at *
  generalize hd4 : decide ((r.2.2.2.2.size : Int) ≤ 16) = d4 at *
  cases d3
  · go_wp2_with fail
    go_ret
    exact ⟨ret_bool (by rw [HV.out]; rfl), HB.out _⟩
  cases d4
  · go_wp2_with fail
    go_ret
    exact ⟨ret_bool (by rw [HV.out]; rfl), HB.out _⟩
  go_wp2_with fail
  go_ret
  exact ⟨ret_bool (by rw [HV.out]; rfl), HB.out _⟩
end Go.Proofs.YtckdecodpjfcnaaGreatDoor
namespace Go.Proofs.YtckdecodpjfcnaaGreatDoor
open Go.RowKit

/-- What the document asks of one batch seen, by what stands behind it (the difference as the machine has it). -/
def chkS (s : Sn) (beh : Int) : Bool := okS s && !decide (RowKit.wrap64 (beh - s.2.1) < s.1)
def refSeen (nx : Int) : List Sn → Bool
  | [] => true
  | s :: l => chkS s (behindS nx l) && refSeen nx l
theorem chkS_eq (s : Sn) (beh : Int) : chkS s beh = (!decide (s.1 < 0) && (decide (1 ≤ s.2.1 ∧ s.2.1 ≤ 4) && (decide (-1 ≤ s.2.2 ∧ s.2.2 ≤ 1048576) && !decide (RowKit.wrap64 (beh - s.2.1) < s.1)))) := by
  unfold chkS okS
  have e : decide (0 ≤ s.1) = !decide (s.1 < 0) := by rw [Bool.eq_iff_iff]; simp
  rw [e, Bool.and_assoc, Bool.and_assoc]
theorem seenB_behind {nx : Int} (hn : 0 ≤ nx ∧ nx ≤ 1048576) : ∀ l : List Sn, seenB nx l = true → 0 ≤ behindS nx l ∧ behindS nx l ≤ 1048576
  | [], _ => hn
  | s :: l, h => by
    rw [seenB, Bool.and_eq_true, Bool.and_eq_true, decide_eq_true_eq] at h
    have := seenB_behind hn l h.2
    have h1 := h.1.1
    unfold okS at h1
    simp only [Bool.and_eq_true, decide_eq_true_eq] at h1
    show 0 ≤ s.1 ∧ s.1 ≤ 1048576
    omega
/-- The machine's difference tells no other. -/
theorem refSeen_eq {nx : Int} (hn : 0 ≤ nx ∧ nx ≤ 1048576) : ∀ l : List Sn, refSeen nx l = seenB nx l
  | [] => rfl
  | s :: l => by
    rw [refSeen, seenB, refSeen_eq hn l]
    cases h : seenB nx l
    · rw [Bool.and_false, Bool.and_false]
    rw [Bool.and_true, Bool.and_true]
    have hb := seenB_behind hn l h
    unfold chkS
    cases h1 : okS s
    · rfl
    rw [Bool.true_and, Bool.true_and]
    unfold okS at h1
    simp only [Bool.and_eq_true, decide_eq_true_eq] at h1
    rw [IntWalk.wrap64_in (behindS nx l - s.2.1) (by omega), Bool.eq_iff_iff]
    simp
theorem drop_at {l : List Sn} {k : Nat} {s : Sn} (h : l[k]? = some s) : l.drop k = s :: l.drop (k + 1) := by
  obtain ⟨h1, h2⟩ := List.getElem?_eq_some_iff.1 h
  rw [List.drop_eq_getElem_cons h1, h2]

set_option maxRecDepth 100000 in
set_option maxHeartbeats 4000000 in
theorem rKnown_loop (p : Pd) (D1 : Option Addr) (e1 : Nat) (w : World) (hr : Reads w w.heap.size 3 D1 p.seen.length (cellsN p.seen)) (hp : prodB p.pid p.ep = true) (hn : decide (0 ≤ p.nx ∧ p.nx ≤ 1048576) = true) (hl : p.seen.length ≤ 3) :
    Calls Tryz.prog 18 #[(.agg #[.int .i64 p.pid, .int .i64 p.ep, .int .i64 p.nx, .slice D1 p.seen.length e1])] w fun e w' => e = .returned (.bool (refSeen p.nx p.seen)) ∧ Below w.heap.size w w' := by
  have HB := Lib.hid (bal (Below.refl w.heap.size w) (.cells #[.int .i64 p.pid, .int .i64 p.ep, .int .i64 p.nx, .slice D1 p.seen.length e1] 30))
  have HK := Lib.hid (Blk.new w 30 #[.int .i64 p.pid, .int .i64 p.ep, .int .i64 p.nx, .slice D1 p.seen.length e1])
  have PR := Lib.hid (fun W => show Calls Tryz.prog 41 #[.int .i64 p.pid, .int .i64 p.ep] W (fun e w' => e = .returned (.bool true) ∧ W = w') from by
    have := rproducer_any p.pid p.ep W
    rw [hp] at this
    exact this)
  have WN := Lib.hid (fun W => show Calls Tryz.prog 42 #[.int .i64 p.nx, .int .i64 0, .int .i64 1048576] W (fun e w' => e = .returned (.bool true) ∧ W = w') from by
    have := within_any p.nx 0 1048576 W
    rw [hn] at this
    exact this)
  have WI := Lib.hid (fun (x l m : Int) (W : World) => within_any x l m W)
  have d0 : decide ((3 : Int) < (p.seen.length : Int)) = false := by simp; omega
  have HL := Lib.hid hl
  have HRD := Lib.hid hr
  clear hr hp hn hl
  go_enter Tryz.func18, Tryz.ntmps18
  go_wp2_with fail
  refine (PR.out _).mono ?_
  rintro e w1 ⟨rfl, rfl⟩
  go_wp2_with fail
  refine (WN.out _).mono ?_
  rintro e w1 ⟨rfl, rfl⟩
  have x3 := HK.out.cell 3
  go_wp2_with fail
  go_loopw [3] (fun y wr => ∃ k : Nat, k ≤ p.seen.length ∧ y = .int .i64 k ∧ Below w.heap.size w wr ∧ Blk wr w.heap.size 30 #[.int .i64 p.pid, .int .i64 p.ep, .int .i64 p.nx, .slice D1 p.seen.length e1] ∧ refSeen p.nx (p.seen.drop k) = refSeen p.nx p.seen) (fun y _ => p.seen.length - (intOf y).toNat)
  case atStart => exact ⟨0, Nat.zero_le _, rfl, HB.out, HK.out, rfl⟩
  case round =>
    obtain ⟨k, hk, rfl, hbel, hblk, hrest⟩ := hrel
    have BE := Lib.hid hbel
    have KB := Lib.hid hblk
    have HR := Lib.hid hrest
    have x3 := hblk.cell 3
    have x2 := hblk.cell 2
    have hlt0 := hblk.lt
    clear hbel hblk hrest
    by_cases hlt : k < p.seen.length
    · have d1' : decide ((k : Int) < (p.seen.length : Int)) = true := by simp; omega
      obtain ⟨b1, o1, rfl, hb1, hc1⟩ := (HRD.out.below BE.out).plain3 (by omega)
      obtain ⟨s, hs⟩ : ∃ z, p.seen[k]? = some z := ⟨_, List.getElem?_eq_getElem hlt⟩
      obtain ⟨g1, g2, g3⟩ := hc1 k _ hs
      have i1 : (0 : Int) ≤ (k : Int) := by omega
      have i2 : (k : Int) < (p.seen.length : Int) := by omega
      have HS := Lib.hid (drop_at hs)
      clear hs
      have hbw : b1 < wr.heap.size := by omega
      have cw : IntKind.i64.wrap ((k : Int) + 1) = (k : Int) + 1 := IntWalk.i64_in _ (by have := HL.out; omega)
      by_cases hk1 : k + 1 < p.seen.length
      · have e2 : decide ((k : Int) + 1 < (p.seen.length : Int)) = true := by simp; omega
        have i3 : (0 : Int) ≤ (k : Int) + 1 := by omega
        have i4 : (k : Int) + 1 < (p.seen.length : Int) := by omega
        have n1 : ((k : Int) + 1).toNat = k + 1 := by omega
        obtain ⟨y, hy⟩ : ∃ z, p.seen[k + 1]? = some z := ⟨_, List.getElem?_eq_getElem (by omega)⟩
        obtain ⟨g4, g5, g6⟩ := hc1 (k + 1) _ hy
        have hbe : behindS p.nx (p.seen.drop (k + 1)) = y.1 := by rw [drop_at hy]; rfl
        clear hy g5 g6
        clear hc1
        have HBE := Lib.hid hbe
        clear hbe hk1
        have HS2 := Lib.hid (show refSeen p.nx (p.seen.drop k) = (chkS s y.1 && refSeen p.nx (p.seen.drop (k + 1))) by rw [HS.out, refSeen, HBE.out])
        have HCK := Lib.hid (chkS_eq s y.1)
        have W1 := Lib.hid (fun W => WI.out s.2.1 1 4 W)
        have W2 := Lib.hid (fun W => WI.out s.2.2 (-1) 1048576 W)
        generalize hd0 : decide (s.1 < 0) = d0 at *
        generalize decide (1 ≤ s.2.1 ∧ s.2.1 ≤ 4) = d1 at *
        generalize decide (-1 ≤ s.2.2 ∧ s.2.2 ≤ 1048576) = d2 at *
        generalize hd3 : decide (RowKit.wrap64 (y.1 - s.2.1) < s.1) = d3 at *
        have BN := Lib.hid (bal BE.out (.cells #[.int .i64 s.1, .int .i64 s.2.1, .int .i64 s.2.2] 73))
        have KN := Lib.hid (KB.out.alloc (.cells #[.int .i64 s.1, .int .i64 s.2.1, .int .i64 s.2.2] 73))
        cases d0
        case true =>
          go_wp2_with fail
          go_ret
          exact ⟨ret_bool (by rw [← HR.out, HS2.out, HCK.out]; rfl), BN.out⟩
        go_wp2_with fail
        refine (W1.out _).mono ?_
        rintro e w1 ⟨rfl, rfl⟩
        cases d1
        case false =>
          go_wp2_with fail
          go_ret
          exact ⟨ret_bool (by rw [← HR.out, HS2.out, HCK.out]; rfl), BN.out⟩
        go_wp2_with fail
        refine (W2.out _).mono ?_
        rintro e w1 ⟨rfl, rfl⟩
        cases d2
        case false =>
          go_wp2_with fail
          go_ret
          exact ⟨ret_bool (by rw [← HR.out, HS2.out, HCK.out]; rfl), BN.out⟩
        cases d3
        case true =>
          go_wp2_with fail
          go_ret
          exact ⟨ret_bool (by rw [← HR.out, HS2.out, HCK.out]; rfl), BN.out⟩
        go_wp2_with fail
        go_roundw
        case rel => exact ⟨k + 1, by omega, by first | go_num | (rw [cw]; rfl), BN.out, KN.out, by rw [← HR.out, HS2.out, HCK.out]; rfl⟩
        case measure => simp [intOf]; omega
      · have e2 : decide ((k : Int) + 1 < (p.seen.length : Int)) = false := by simp; omega
        have hbe : behindS p.nx (p.seen.drop (k + 1)) = p.nx := by rw [List.drop_eq_nil_of_le (by omega)]; rfl
        clear hc1
        have HBE := Lib.hid hbe
        clear hbe hk1
        have HS2 := Lib.hid (show refSeen p.nx (p.seen.drop k) = (chkS s p.nx && refSeen p.nx (p.seen.drop (k + 1))) by rw [HS.out, refSeen, HBE.out])
        have HCK := Lib.hid (chkS_eq s p.nx)
        have W1 := Lib.hid (fun W => WI.out s.2.1 1 4 W)
        have W2 := Lib.hid (fun W => WI.out s.2.2 (-1) 1048576 W)
        generalize hd0 : decide (s.1 < 0) = d0 at *
        generalize decide (1 ≤ s.2.1 ∧ s.2.1 ≤ 4) = d1 at *
        generalize decide (-1 ≤ s.2.2 ∧ s.2.2 ≤ 1048576) = d2 at *
        generalize hd3 : decide (RowKit.wrap64 (p.nx - s.2.1) < s.1) = d3 at *
        have BN := Lib.hid (bal BE.out (.cells #[.int .i64 s.1, .int .i64 s.2.1, .int .i64 s.2.2] 73))
        have KN := Lib.hid (KB.out.alloc (.cells #[.int .i64 s.1, .int .i64 s.2.1, .int .i64 s.2.2] 73))
        cases d0
        case true =>
          go_wp2_with fail
          go_ret
          exact ⟨ret_bool (by rw [← HR.out, HS2.out, HCK.out]; rfl), BN.out⟩
        go_wp2_with fail
        refine (W1.out _).mono ?_
        rintro e w1 ⟨rfl, rfl⟩
        cases d1
        case false =>
          go_wp2_with fail
          go_ret
          exact ⟨ret_bool (by rw [← HR.out, HS2.out, HCK.out]; rfl), BN.out⟩
        go_wp2_with fail
        refine (W2.out _).mono ?_
        rintro e w1 ⟨rfl, rfl⟩
        cases d2
        case false =>
          go_wp2_with fail
          go_ret
          exact ⟨ret_bool (by rw [← HR.out, HS2.out, HCK.out]; rfl), BN.out⟩
        cases d3
        case true =>
          go_wp2_with fail
          go_ret
          exact ⟨ret_bool (by rw [← HR.out, HS2.out, HCK.out]; rfl), BN.out⟩
        go_wp2_with fail
        go_roundw
        case rel => exact ⟨k + 1, by omega, by first | go_num | (rw [cw]; rfl), BN.out, KN.out, by rw [← HR.out, HS2.out, HCK.out]; rfl⟩
        case measure => simp [intOf]; omega
    · obtain rfl : k = p.seen.length := by omega
      have d1' : decide ((p.seen.length : Int) < (p.seen.length : Int)) = false := by simp
      have HF := Lib.hid (show refSeen p.nx p.seen = true by rw [← HR.out, List.drop_eq_nil_of_le (Nat.le_refl _)]; rfl)
      go_wp2_with fail
      go_ret
      exact ⟨ret_bool (by rw [HF.out]), BE.out⟩
set_option maxRecDepth 100000 in
set_option maxHeartbeats 1000000 in
theorem rKnown_any (p : Pd) (D1 : Option Addr) (e1 : Nat) (w : World) (hr : Reads w w.heap.size 3 D1 p.seen.length (cellsN p.seen)) :
    Calls Tryz.prog 18 #[(.agg #[.int .i64 p.pid, .int .i64 p.ep, .int .i64 p.nx, .slice D1 p.seen.length e1])] w fun e w' => e = .returned (.bool (knownB p)) ∧ Below w.heap.size w w' := by
  have HB := Lib.hid (bal (Below.refl w.heap.size w) (.cells #[.int .i64 p.pid, .int .i64 p.ep, .int .i64 p.nx, .slice D1 p.seen.length e1] 30))
  have PR := Lib.hid (fun W => rproducer_any p.pid p.ep W)
  have WI := Lib.hid (fun (W : World) => within_any p.nx 0 1048576 W)
  have HV := Lib.hid (show knownB p = (prodB p.pid p.ep && (decide (0 ≤ p.nx ∧ p.nx ≤ 1048576) && (decide (p.seen.length ≤ 3) && seenB p.nx p.seen))) from rfl)
  have HLP := Lib.hid (fun h1 h2 h3 => rKnown_loop p D1 e1 w hr h1 h2 h3)
  cases h1 : prodB p.pid p.ep
  case false =>
    rw [h1] at PR HV
    clear HLP h1
    go_enter Tryz.func18, Tryz.ntmps18
    go_wp2_with fail
    refine (PR.out _).mono ?_
    rintro e w1 ⟨rfl, rfl⟩
    go_wp2_with fail
    go_ret
    exact ⟨ret_bool (by rw [HV.out]; rfl), HB.out⟩
  cases h2 : decide (0 ≤ p.nx ∧ p.nx ≤ 1048576)
  case false =>
    rw [h1] at PR HV
    rw [h2] at WI HV
    clear HLP h1 h2
    go_enter Tryz.func18, Tryz.ntmps18
    go_wp2_with fail
    refine (PR.out _).mono ?_
    rintro e w1 ⟨rfl, rfl⟩
    go_wp2_with fail
    refine (WI.out _).mono ?_
    rintro e w1 ⟨rfl, rfl⟩
    go_wp2_with fail
    go_ret
    exact ⟨ret_bool (by rw [HV.out]; rfl), HB.out⟩
  by_cases h3 : p.seen.length ≤ 3
  · have e := HV.out
    rw [h1, h2, decide_eq_true h3, ← refSeen_eq (by simpa using h2)] at e
    rw [show knownB p = refSeen p.nx p.seen from e]
    exact HLP.out h1 h2 h3
  · rw [h1] at PR HV
    rw [h2] at WI HV
    rw [decide_eq_false h3] at HV
    have d3 : decide ((3 : Int) < (p.seen.length : Int)) = true := by simp; omega
    clear HLP h1 h2 h3 hr
    go_enter Tryz.func18, Tryz.ntmps18
    go_wp2_with fail
    refine (PR.out _).mono ?_
    rintro e w1 ⟨rfl, rfl⟩
    go_wp2_with fail
    refine (WI.out _).mono ?_
    rintro e w1 ⟨rfl, rfl⟩
    go_wp2_with fail
    go_ret
    exact ⟨ret_bool (by rw [HV.out]; rfl), HB.out⟩
end Go.Proofs.YtckdecodpjfcnaaGreatDoor
namespace Go.Proofs.YtckdecodpjfcnaaGreatDoor
open Go.RowKit

/-- An entry with the fields that its kind names alone. -/
def bareEn (x : En) : En :=
  if x.kd = 0 then { baseEn x.kd with b := x.b }
  else if x.kd = 1 then { baseEn x.kd with b := wh x.b.pid x.b.ep, yes := x.yes }
  else if x.kd = 2 then { baseEn x.kd with off := x.off }
  else if x.kd = 3 then { baseEn x.kd with b := x.b, yes := x.yes, nx := if x.yes then x.nx else 0 }
  else if x.kd = 4 then { baseEn x.kd with b := wh x.b.pid x.b.ep, nx := x.nx }
  else if x.kd = 5 then { baseEn x.kd with row := (0, x.row.2.1, x.row.2.2.1, x.row.2.2.2.1, x.row.2.2.2.2) }
  else if x.kd = 6 then { baseEn x.kd with prod := x.prod }
  else baseEn x.kd
/-- What the document asks of a kind's fields. -/
def okR (x : En) : Bool :=
  if x.kd = 0 then mayBt x.b
  else if x.kd = 1 then prodB x.b.pid x.b.ep
  else if x.kd = 2 then seqB x.off
  else if x.kd = 3 then mayBt x.b && (x.b.txn && seqB x.nx)
  else if x.kd = 4 then prodB x.b.pid x.b.ep && seqB x.nx
  else if x.kd = 5 then rowB (0, x.row.2.1, x.row.2.2.1, x.row.2.2.2.1, x.row.2.2.2.2)
  else if x.kd = 6 then knownB x.prod
  else false
theorem mayR_eq (x : En) : (sameEn x (bareEn x) && okR x) = mayEn x := by
  rw [Bool.eq_iff_iff, mayEn, Bool.and_eq_true, Bool.and_eq_true, sameEn_iff, sameEn_iff]
  obtain ⟨kd, ⟨p1, p2, p3, p4, p5⟩, yes, nx, off, ⟨r1, r2, r3, r4, r5⟩, prod⟩ := x
  unfold bareEn okR okEn restEn
  simp only
  by_cases k0 : kd = 0
  · subst k0
    simp [baseEn]
    constructor <;> intro h <;> simp_all
  by_cases k1 : kd = 1
  · subst k1
    simp [baseEn, wh, Bat0]
    constructor <;> intro h <;> simp_all
  by_cases k2 : kd = 2
  · subst k2
    simp [baseEn, Bat0]
    constructor <;> intro h <;> simp_all
  by_cases k3 : kd = 3
  · subst k3
    cases yes
    · simp [baseEn, Bat0]
      constructor
      · rintro ⟨⟨h1, h2, h3, h4⟩, h5, h6, h7⟩
        exact ⟨⟨h6, h5⟩, h1, h2, h3, h4⟩
      · rintro ⟨⟨h6, h5⟩, h1, h2, h3, h4⟩
        exact ⟨⟨h1, h2, h3, h4⟩, h5, h6, by rw [h1]; decide⟩
    · simp [baseEn, Bat0]
      constructor
      · rintro ⟨h1, h5, h6, h7⟩
        exact ⟨⟨⟨h6, h7⟩, h5⟩, h1⟩
      · rintro ⟨⟨⟨h6, h7⟩, h5⟩, h1⟩
        exact ⟨h1, h5, h6, h7⟩
  by_cases k4 : kd = 4
  · subst k4
    cases yes
    · simp [baseEn, wh, Bat0]
      constructor <;> intro h <;> simp_all
    · simp [baseEn, wh, Bat0]
  by_cases k5 : kd = 5
  · subst k5
    simp [baseEn, Bat0, Rw0]
    constructor
    · rintro ⟨⟨h1, h2, h3, h4, h5, h6⟩, h7⟩
      subst h5
      exact ⟨h7, h1, h2, h3, h4, h6⟩
    · rintro ⟨h7, h1, h2, h3, h4, h6⟩
      have h5 : r1 = 0 := by
        unfold rowB at h7
        rw [Bool.and_eq_true, decide_eq_true_eq] at h7
        exact h7.1
      subst h5
      exact ⟨⟨h1, h2, h3, h4, rfl, h6⟩, h7⟩
  by_cases k6 : kd = 6
  · subst k6
    simp [baseEn, Bat0]
    constructor <;> intro h <;> simp_all
  simp [k0, k1, k2, k3, k4, k5, k6]

theorem cells_off {W : World} {b : Nat} {t : TypeId} {cs : List Value} (h : Blk W b t cs.toArray) (o n : Nat) {vs : List Value} (hvs : (cs.drop o).take n = vs) (hn : vs.length = n) : (loadCells ⟨b, o, none⟩ n).run Tryz.prog W = .ok vs.toArray W := by
  have := run_loadCells_list (P := Tryz.prog) W ⟨b, o, none⟩ vs (fun j v hv => by
    rw [Addr.add_mid, h.cell (o + j)]
    subst hvs
    have hj : j < n := by
      have := (List.getElem?_eq_some_iff.1 hv).1
      rw [List.length_take] at this
      omega
    rw [List.getElem?_take_of_lt hj, List.getElem?_drop] at hv
    simpa using hv)
  rw [hn] at this
  exact this
theorem setAll_mid (post : List Value) : ∀ (vs zs pre : List Value), zs.length = vs.length → setAll (pre ++ (zs ++ post)).toArray pre.length vs = (pre ++ (vs ++ post)).toArray
  | [], zs, pre, h => by
    rw [List.length_eq_zero_iff.1 h]
    rfl
  | v :: vs, [], pre, h => by simp at h
  | v :: vs, z :: zs, pre, h => by
    rw [setAll]
    have e : (pre ++ (z :: zs ++ post)).toArray.setIfInBounds pre.length v = ((pre ++ [v]) ++ (zs ++ post)).toArray := by
      rw [List.setIfInBounds_toArray]
      congr 1
      rw [List.set_append_right _ _ (Nat.le_refl _)]
      simp
    rw [e]
    have := setAll_mid post vs zs (pre ++ [v]) (by simpa using h)
    rw [List.length_append, List.length_singleton] at this
    rw [this]
    simp
theorem blk_there_off {W : World} {b : Nat} {t : TypeId} {cs : Array Value} (h : Blk W b t cs) (o n : Nat) (hn : o + n ≤ cs.size) : W.there b o n := fun j hj => by
  refine ⟨?_, h.frozen _⟩
  rw [h.cell (o + j)]
  simp; omega
/-- A part of a struct stored into a block. -/
theorem store_off {W : World} {b : Nat} {t : TypeId} (pre zs post : List Value) (ty : TypeId) (cs : Array Value) (h : Blk W b t (pre ++ (zs ++ post)).toArray) (hz : zs.length = cs.toList.length) (hi : (Tryz.prog.info? ty).map (·.size) = some cs.size) (h1 : cs.all (·.oneCell') = true) :
    ∃ W', (storeVar ty ⟨b, pre.length, none⟩ (.agg cs)).run Tryz.prog W = .ok () W' ∧ Blk W' b t (pre ++ (cs.toList ++ post)).toArray ∧ W'.heap.size = W.heap.size ∧ (∀ n (w : World), n ≤ b → Below n w W → Below n w W') ∧ ∀ g t ds, g ≠ b → Blk W g t ds → Blk W' g t ds :=
  ⟨_, run_storeVar_mid W b pre.length ty cs (blk_there_off h _ _ (by show pre.length + cs.size ≤ (pre ++ (zs ++ post)).length; rw [List.length_append, List.length_append, hz]; simp)) hi h1, (by have := blk_setCells cs.toList pre.length _ _ h; rw [setAll_mid post cs.toList zs pre hz] at this; exact this), size_setCells .., fun n w hb hB => below_setCells hb _ _ _ hB, fun g t ds hg hk => blk_setCells_far hg _ _ _ hk⟩
theorem store_int7 {W : World} {a : Addr} {u : Value} (k : Int) (h : W.cell? a = some u) (hf : W.frozen? a = false) : (storeVar 3 a (.int .i64 k)).run Tryz.prog W = .ok () (W.setCell a (.int .i64 k)) := by
  simp [go_sem, h, hf]
theorem store_bool7 {W : World} {a : Addr} {u : Value} (k : Bool) (h : W.cell? a = some u) (hf : W.frozen? a = false) : (storeVar 4 a (.bool k)).run Tryz.prog W = .ok () (W.setCell a (.bool k)) := by
  simp [go_sem, h, hf]
/-- One cell of a struct stored into a block. -/
theorem store_cell {W : World} {b : Nat} {t : TypeId} (pre : List Value) (z : Value) (post : List Value) (ty : TypeId) (v : Value) (hst : ∀ (W : World) (u : Value), W.cell? ⟨b, pre.length, none⟩ = some u → W.frozen? ⟨b, pre.length, none⟩ = false → (storeVar ty ⟨b, pre.length, none⟩ v).run Tryz.prog W = .ok () (W.setCell ⟨b, pre.length, none⟩ v)) (h : Blk W b t (pre ++ (z :: post)).toArray) :
    ∃ W', (storeVar ty ⟨b, pre.length, none⟩ v).run Tryz.prog W = .ok () W' ∧ Blk W' b t (pre ++ (v :: post)).toArray ∧ W'.heap.size = W.heap.size ∧ (∀ n (w : World), n ≤ b → Below n w W → Below n w W') ∧ ∀ g t ds, g ≠ b → Blk W g t ds → Blk W' g t ds :=
  ⟨_, hst W z (by rw [h.cell]; simp) (h.frozen _), (by
    have := h.set_ pre.length v
    rw [List.setIfInBounds_toArray, List.set_append_right _ _ (Nat.le_refl _)] at this
    simpa using this), by simp, fun n w hb hB => hB.setCell (p := ⟨b, pre.length, none⟩) hb v, fun g t ds hg hk => hk.far (p := ⟨b, pre.length, none⟩) hg v⟩
/-- What bare gives. -/
def BarePost (x : En) (w : World) : Ending → World → Prop := fun e w' => ∃ A9 D9 c9 e9, e = .returned (.agg #[.int .i8 (bareEn x).kd, .int .i64 (bareEn x).b.pid, .int .i64 (bareEn x).b.ep, .int .i64 (bareEn x).b.seq, .bool (bareEn x).b.txn, .slice A9 (bareEn x).b.rs.length c9, .bool (bareEn x).yes, .int .i64 (bareEn x).nx, .int .i64 (bareEn x).off, .int .i64 (bareEn x).row.1, .int .i64 (bareEn x).row.2.1, .int .i64 (bareEn x).row.2.2.1, .string (bareEn x).row.2.2.2.1, .string (bareEn x).row.2.2.2.2, .int .i64 (bareEn x).prod.pid, .int .i64 (bareEn x).prod.ep, .int .i64 (bareEn x).prod.nx, .slice D9 (bareEn x).prod.seen.length e9]) ∧ EnR w' (bareEn x) A9 D9 ∧ Below w.heap.size w w'
section
attribute [-go_sem] loadCells storeVar
set_option maxRecDepth 100000 in
set_option maxHeartbeats 1000000 in
theorem bare_ret (x : En) (A5 D5 : Option Addr) (c5 e5 : Nat) (tmps : Array Value) (b : Nat) (W : World) (h2 : tmps[2]?.getD undef = .pointer (some ⟨b, 0, none⟩)) (hK : Blk W b 32 #[.int .i8 x.kd, .int .i64 x.b.pid, .int .i64 x.b.ep, .int .i64 x.b.seq, .bool x.b.txn, .slice A5 x.b.rs.length c5, .bool x.yes, .int .i64 x.nx, .int .i64 x.off, .int .i64 x.row.1, .int .i64 x.row.2.1, .int .i64 x.row.2.2.1, .string x.row.2.2.2.1, .string x.row.2.2.2.2, .int .i64 x.prod.pid, .int .i64 x.prod.ep, .int .i64 x.prod.nx, .slice D5 x.prod.seen.length e5]) :
    (results Tryz.f39 tmps).run Tryz.prog W = .ok (.agg #[.int .i8 x.kd, .int .i64 x.b.pid, .int .i64 x.b.ep, .int .i64 x.b.seq, .bool x.b.txn, .slice A5 x.b.rs.length c5, .bool x.yes, .int .i64 x.nx, .int .i64 x.off, .int .i64 x.row.1, .int .i64 x.row.2.1, .int .i64 x.row.2.2.1, .string x.row.2.2.2.1, .string x.row.2.2.2.2, .int .i64 x.prod.pid, .int .i64 x.prod.ep, .int .i64 x.prod.nx, .slice D5 x.prod.seen.length e5]) W := by
  have LC := cells_blk hK rfl
  clear hK
  simp [results, Tryz.results39, go_sem, h2, LC]
set_option maxRecDepth 100000 in
set_option maxHeartbeats 4000000 in
theorem bare_0 (x : En) (hk : x.kd = 0) (A1 D1 : Option Addr) (c1 e1 : Nat) (w : World) (hr : EnR w x A1 D1) :
    Calls Tryz.prog 39 #[(.agg #[.int .i8 x.kd, .int .i64 x.b.pid, .int .i64 x.b.ep, .int .i64 x.b.seq, .bool x.b.txn, .slice A1 x.b.rs.length c1, .bool x.yes, .int .i64 x.nx, .int .i64 x.off, .int .i64 x.row.1, .int .i64 x.row.2.1, .int .i64 x.row.2.2.1, .string x.row.2.2.2.1, .string x.row.2.2.2.2, .int .i64 x.prod.pid, .int .i64 x.prod.ep, .int .i64 x.prod.nx, .slice D1 x.prod.seen.length e1])] w (BarePost x w) := by
  have HR := Lib.hid hr
  have HQ := Lib.hid (show bareEn x = { baseEn x.kd with b := x.b } by unfold bareEn; rw [hk]; rfl)
  have cc0 : (x.kd == 0) = true := by rw [hk]; rfl
  have cc1 : (x.kd == 1) = false := by rw [hk]; rfl
  have cc2 : (x.kd == 2) = false := by rw [hk]; rfl
  have cc3 : (x.kd == 3) = false := by rw [hk]; rfl
  have cc4 : (x.kd == 4) = false := by rw [hk]; rfl
  have cc5 : (x.kd == 5) = false := by rw [hk]; rfl
  have cc6 : (x.kd == 6) = false := by rw [hk]; rfl
  obtain ⟨W0, hW0⟩ : ∃ W0, W0 = (w.alloc (.cells #[.int .i8 x.kd, .int .i64 x.b.pid, .int .i64 x.b.ep, .int .i64 x.b.seq, .bool x.b.txn, .slice A1 x.b.rs.length c1, .bool x.yes, .int .i64 x.nx, .int .i64 x.off, .int .i64 x.row.1, .int .i64 x.row.2.1, .int .i64 x.row.2.2.1, .string x.row.2.2.2.1, .string x.row.2.2.2.2, .int .i64 x.prod.pid, .int .i64 x.prod.ep, .int .i64 x.prod.nx, .slice D1 x.prod.seen.length e1] 32)).alloc (.cells #[.int .i8 0, .int .i64 0, .int .i64 0, .int .i64 0, .bool false, .slice none 0 0, .bool false, .int .i64 0, .int .i64 0, .int .i64 0, .int .i64 0, .int .i64 0, .string ⟨#[]⟩, .string ⟨#[]⟩, .int .i64 0, .int .i64 0, .int .i64 0, .slice none 0 0] 32) := ⟨_, rfl⟩
  have KX0 : Blk W0 w.heap.size 32 #[.int .i8 x.kd, .int .i64 x.b.pid, .int .i64 x.b.ep, .int .i64 x.b.seq, .bool x.b.txn, .slice A1 x.b.rs.length c1, .bool x.yes, .int .i64 x.nx, .int .i64 x.off, .int .i64 x.row.1, .int .i64 x.row.2.1, .int .i64 x.row.2.2.1, .string x.row.2.2.2.1, .string x.row.2.2.2.2, .int .i64 x.prod.pid, .int .i64 x.prod.ep, .int .i64 x.prod.nx, .slice D1 x.prod.seen.length e1] := by rw [hW0]; exact (Blk.new _ _ _).alloc _
  have KR0 : Blk W0 (w.heap.size + 1) 32 ezero := by rw [hW0]; exact blk_new _ _ _ (by simp)
  have b0 : Below w.heap.size w W0 := by rw [hW0]; exact bal (bal (Below.refl _ _) _) _
  have hs0 : W0.heap.size = w.heap.size + 2 := by rw [hW0]; simp
  obtain ⟨W1, st1, kO, bb⟩ := fresh_en W0 #[Value.int .i8 x.kd, Value.int .i64 0, Value.int .i64 0, Value.int .i64 0, Value.bool false, Value.slice none 0 0, Value.bool false, Value.int .i64 0, Value.int .i64 0, Value.int .i64 0, Value.int .i64 0, Value.int .i64 0, Value.string ⟨#[]⟩, Value.string ⟨#[]⟩, Value.int .i64 0, Value.int .i64 0, Value.int .i64 0, Value.slice none 0 0] rfl (by simp [Value.oneCell'])
  have KX := KX0.below bb KX0.lt
  have KR := KR0.below bb KR0.lt
  have b1 := btrans b0 (bb.mono (by omega))
  have HW0 := Lib.hid hW0
  have x0 := KX0.cell 0
  have ST1 := Lib.hid st1
  have KX1 := Lib.hid KX
  have KR1 := Lib.hid KR
  have KO1 := Lib.hid kO
  have B1 := Lib.hid b1
  have HS0 := Lib.hid hs0
  have g1 : w.heap.size ≠ W0.heap.size := by omega
  have g2 : w.heap.size + 1 ≠ W0.heap.size := by omega
  have g3 : w.heap.size ≤ W0.heap.size := by omega
  have HG := Lib.hid (And.intro g1 (And.intro g2 g3))
  clear hW0 KX0 KR0 b0 hs0 st1 kO bb KX KR b1 g1 g2 g3 hr hk
  go_enter Tryz.func39, Tryz.ntmps39
  go_upto_region 1 with (fail)
  rw [← HW0.out]
  have st1 := ST1.out
  go_upto_region 2 with (fail)
  clear st1 x0
  have x0 := KX1.out.cell 0
  have LB := cells_off KX1.out 1 5 rfl rfl
  obtain ⟨W2, st, kO, _, fb, fk⟩ := store_off ([Value.int .i8 x.kd] : List Value) ([Value.int .i64 0, Value.int .i64 0, Value.int .i64 0, Value.bool false, Value.slice none 0 0] : List Value) ([Value.bool false, Value.int .i64 0, Value.int .i64 0, Value.int .i64 0, Value.int .i64 0, Value.int .i64 0, Value.string ⟨#[]⟩, Value.string ⟨#[]⟩, Value.int .i64 0, Value.int .i64 0, Value.int .i64 0, Value.slice none 0 0] : List Value) 25 (#[Value.int .i64 x.b.pid, Value.int .i64 x.b.ep, Value.int .i64 x.b.seq, Value.bool x.b.txn, Value.slice A1 x.b.rs.length c1] : Array Value) (show Blk W1 W0.heap.size 32 (([Value.int .i8 x.kd] : List Value) ++ ([Value.int .i64 0, Value.int .i64 0, Value.int .i64 0, Value.bool false, Value.slice none 0 0] ++ [Value.bool false, Value.int .i64 0, Value.int .i64 0, Value.int .i64 0, Value.int .i64 0, Value.int .i64 0, Value.string ⟨#[]⟩, Value.string ⟨#[]⟩, Value.int .i64 0, Value.int .i64 0, Value.int .i64 0, Value.slice none 0 0])).toArray from KO1.out) rfl (by kernel_rfl) (by simp [Value.oneCell'])
  have st2 : _ := st
  have KX2 := Lib.hid (fk _ _ _ HG.out.1 KX1.out)
  have KR2 := Lib.hid (fk _ _ _ HG.out.2.1 KR1.out)
  have B2 := Lib.hid (fb _ w HG.out.2.2 B1.out)
  have KO2 := Lib.hid (show Blk W2 W0.heap.size 32 #[Value.int .i8 x.kd, Value.int .i64 x.b.pid, Value.int .i64 x.b.ep, Value.int .i64 x.b.seq, Value.bool x.b.txn, Value.slice A1 x.b.rs.length c1, Value.bool false, Value.int .i64 0, Value.int .i64 0, Value.int .i64 0, Value.int .i64 0, Value.int .i64 0, Value.string ⟨#[]⟩, Value.string ⟨#[]⟩, Value.int .i64 0, Value.int .i64 0, Value.int .i64 0, Value.slice none 0 0] from kO)
  clear st kO fb fk
  simp only [List.length_cons, List.length_nil, Nat.reduceAdd, Nat.zero_add] at st2
  go_upto_region 23 with (fail)
  clear st2 LB 
  have LO := cells_blk KO2.out rfl
  obtain ⟨W9, st9, kw, fb, _⟩ := store_blk2 (cs := #[Value.int .i8 x.kd, Value.int .i64 x.b.pid, Value.int .i64 x.b.ep, Value.int .i64 x.b.seq, Value.bool x.b.txn, Value.slice A1 x.b.rs.length c1, Value.bool false, Value.int .i64 0, Value.int .i64 0, Value.int .i64 0, Value.int .i64 0, Value.int .i64 0, Value.string ⟨#[]⟩, Value.string ⟨#[]⟩, Value.int .i64 0, Value.int .i64 0, Value.int .i64 0, Value.slice none 0 0]) KR2.out rfl rfl (by simp [Value.oneCell'])
  have BW := Lib.hid (fb _ w (Nat.le_succ _) B2.out)
  have KW := Lib.hid kw
  clear kw fb
  go_wp2_with fail
  have kq : Blk W9 (w.heap.size + 1) 32 #[.int .i8 (bareEn x).kd, .int .i64 (bareEn x).b.pid, .int .i64 (bareEn x).b.ep, .int .i64 (bareEn x).b.seq, .bool (bareEn x).b.txn, .slice A1 (bareEn x).b.rs.length c1, .bool (bareEn x).yes, .int .i64 (bareEn x).nx, .int .i64 (bareEn x).off, .int .i64 (bareEn x).row.1, .int .i64 (bareEn x).row.2.1, .int .i64 (bareEn x).row.2.2.1, .string (bareEn x).row.2.2.2.1, .string (bareEn x).row.2.2.2.2, .int .i64 (bareEn x).prod.pid, .int .i64 (bareEn x).prod.ep, .int .i64 (bareEn x).prod.nx, .slice none (bareEn x).prod.seen.length 0] := by rw [HQ.out]; exact KW.out
  refine bodyPost_ret (bare_ret (bareEn x) A1 none c1 0 _ (w.heap.size + 1) _ rfl kq) rfl ?_
  refine ⟨A1, none, c1, 0, rfl, ?_, BW.out⟩
  rw [HQ.out]
  exact ⟨(HR.out.up BW.out).1, Reads.none_, HR.out.2.2.1, Nat.zero_le _⟩
set_option maxRecDepth 100000 in
set_option maxHeartbeats 4000000 in
theorem bare_1 (x : En) (hk : x.kd = 1) (A1 D1 : Option Addr) (c1 e1 : Nat) (w : World) (hr : EnR w x A1 D1) :
    Calls Tryz.prog 39 #[(.agg #[.int .i8 x.kd, .int .i64 x.b.pid, .int .i64 x.b.ep, .int .i64 x.b.seq, .bool x.b.txn, .slice A1 x.b.rs.length c1, .bool x.yes, .int .i64 x.nx, .int .i64 x.off, .int .i64 x.row.1, .int .i64 x.row.2.1, .int .i64 x.row.2.2.1, .string x.row.2.2.2.1, .string x.row.2.2.2.2, .int .i64 x.prod.pid, .int .i64 x.prod.ep, .int .i64 x.prod.nx, .slice D1 x.prod.seen.length e1])] w (BarePost x w) := by
  have HR := Lib.hid hr
  have HQ := Lib.hid (show bareEn x = { baseEn x.kd with b := wh x.b.pid x.b.ep, yes := x.yes } by unfold bareEn; rw [hk]; rfl)
  have cc0 : (x.kd == 0) = false := by rw [hk]; rfl
  have cc1 : (x.kd == 1) = true := by rw [hk]; rfl
  have cc2 : (x.kd == 2) = false := by rw [hk]; rfl
  have cc3 : (x.kd == 3) = false := by rw [hk]; rfl
  have cc4 : (x.kd == 4) = false := by rw [hk]; rfl
  have cc5 : (x.kd == 5) = false := by rw [hk]; rfl
  have cc6 : (x.kd == 6) = false := by rw [hk]; rfl
  obtain ⟨W0, hW0⟩ : ∃ W0, W0 = (w.alloc (.cells #[.int .i8 x.kd, .int .i64 x.b.pid, .int .i64 x.b.ep, .int .i64 x.b.seq, .bool x.b.txn, .slice A1 x.b.rs.length c1, .bool x.yes, .int .i64 x.nx, .int .i64 x.off, .int .i64 x.row.1, .int .i64 x.row.2.1, .int .i64 x.row.2.2.1, .string x.row.2.2.2.1, .string x.row.2.2.2.2, .int .i64 x.prod.pid, .int .i64 x.prod.ep, .int .i64 x.prod.nx, .slice D1 x.prod.seen.length e1] 32)).alloc (.cells #[.int .i8 0, .int .i64 0, .int .i64 0, .int .i64 0, .bool false, .slice none 0 0, .bool false, .int .i64 0, .int .i64 0, .int .i64 0, .int .i64 0, .int .i64 0, .string ⟨#[]⟩, .string ⟨#[]⟩, .int .i64 0, .int .i64 0, .int .i64 0, .slice none 0 0] 32) := ⟨_, rfl⟩
  have KX0 : Blk W0 w.heap.size 32 #[.int .i8 x.kd, .int .i64 x.b.pid, .int .i64 x.b.ep, .int .i64 x.b.seq, .bool x.b.txn, .slice A1 x.b.rs.length c1, .bool x.yes, .int .i64 x.nx, .int .i64 x.off, .int .i64 x.row.1, .int .i64 x.row.2.1, .int .i64 x.row.2.2.1, .string x.row.2.2.2.1, .string x.row.2.2.2.2, .int .i64 x.prod.pid, .int .i64 x.prod.ep, .int .i64 x.prod.nx, .slice D1 x.prod.seen.length e1] := by rw [hW0]; exact (Blk.new _ _ _).alloc _
  have KR0 : Blk W0 (w.heap.size + 1) 32 ezero := by rw [hW0]; exact blk_new _ _ _ (by simp)
  have b0 : Below w.heap.size w W0 := by rw [hW0]; exact bal (bal (Below.refl _ _) _) _
  have hs0 : W0.heap.size = w.heap.size + 2 := by rw [hW0]; simp
  obtain ⟨W1, st1, kO, bb⟩ := fresh_en W0 #[Value.int .i8 x.kd, Value.int .i64 0, Value.int .i64 0, Value.int .i64 0, Value.bool false, Value.slice none 0 0, Value.bool false, Value.int .i64 0, Value.int .i64 0, Value.int .i64 0, Value.int .i64 0, Value.int .i64 0, Value.string ⟨#[]⟩, Value.string ⟨#[]⟩, Value.int .i64 0, Value.int .i64 0, Value.int .i64 0, Value.slice none 0 0] rfl (by simp [Value.oneCell'])
  have KX := KX0.below bb KX0.lt
  have KR := KR0.below bb KR0.lt
  have b1 := btrans b0 (bb.mono (by omega))
  have HW0 := Lib.hid hW0
  have x0 := KX0.cell 0
  have ST1 := Lib.hid st1
  have KX1 := Lib.hid KX
  have KR1 := Lib.hid KR
  have KO1 := Lib.hid kO
  have B1 := Lib.hid b1
  have HS0 := Lib.hid hs0
  have g1 : w.heap.size ≠ W0.heap.size := by omega
  have g2 : w.heap.size + 1 ≠ W0.heap.size := by omega
  have g3 : w.heap.size ≤ W0.heap.size := by omega
  have HG := Lib.hid (And.intro g1 (And.intro g2 g3))
  clear hW0 KX0 KR0 b0 hs0 st1 kO bb KX KR b1 g1 g2 g3 hr hk
  go_enter Tryz.func39, Tryz.ntmps39
  go_upto_region 1 with (fail)
  rw [← HW0.out]
  have st1 := ST1.out
  go_upto_region 2 with (fail)
  clear st1 x0
  have x0 := KX1.out.cell 0
  have x1 := KX1.out.cell 1
  have x2 := KX1.out.cell 2
  obtain ⟨W2, st, kO, _, fb, fk⟩ := store_off ([Value.int .i8 x.kd] : List Value) ([Value.int .i64 0, Value.int .i64 0, Value.int .i64 0, Value.bool false, Value.slice none 0 0] : List Value) ([Value.bool false, Value.int .i64 0, Value.int .i64 0, Value.int .i64 0, Value.int .i64 0, Value.int .i64 0, Value.string ⟨#[]⟩, Value.string ⟨#[]⟩, Value.int .i64 0, Value.int .i64 0, Value.int .i64 0, Value.slice none 0 0] : List Value) 25 (#[Value.int .i64 x.b.pid, Value.int .i64 x.b.ep, Value.int .i64 0, Value.bool false, Value.slice none 0 0] : Array Value) (show Blk W1 W0.heap.size 32 (([Value.int .i8 x.kd] : List Value) ++ ([Value.int .i64 0, Value.int .i64 0, Value.int .i64 0, Value.bool false, Value.slice none 0 0] ++ [Value.bool false, Value.int .i64 0, Value.int .i64 0, Value.int .i64 0, Value.int .i64 0, Value.int .i64 0, Value.string ⟨#[]⟩, Value.string ⟨#[]⟩, Value.int .i64 0, Value.int .i64 0, Value.int .i64 0, Value.slice none 0 0])).toArray from KO1.out) rfl (by kernel_rfl) (by simp [Value.oneCell'])
  have st2 : _ := st
  have KX2 := Lib.hid (fk _ _ _ HG.out.1 KX1.out)
  have KR2 := Lib.hid (fk _ _ _ HG.out.2.1 KR1.out)
  have B2 := Lib.hid (fb _ w HG.out.2.2 B1.out)
  have KO2 := Lib.hid (show Blk W2 W0.heap.size 32 #[Value.int .i8 x.kd, Value.int .i64 x.b.pid, Value.int .i64 x.b.ep, Value.int .i64 0, Value.bool false, Value.slice none 0 0, Value.bool false, Value.int .i64 0, Value.int .i64 0, Value.int .i64 0, Value.int .i64 0, Value.int .i64 0, Value.string ⟨#[]⟩, Value.string ⟨#[]⟩, Value.int .i64 0, Value.int .i64 0, Value.int .i64 0, Value.slice none 0 0] from kO)
  clear st kO fb fk
  simp only [List.length_cons, List.length_nil, Nat.reduceAdd, Nat.zero_add] at st2
  go_upto_region 7 with (fail)
  clear st2 x1 x2
  have x6 := KX2.out.cell 6
  obtain ⟨W3, st, kO, _, fb, fk⟩ := store_cell ([Value.int .i8 x.kd, Value.int .i64 x.b.pid, Value.int .i64 x.b.ep, Value.int .i64 0, Value.bool false, Value.slice none 0 0] : List Value) (Value.bool false) ([Value.int .i64 0, Value.int .i64 0, Value.int .i64 0, Value.int .i64 0, Value.int .i64 0, Value.string ⟨#[]⟩, Value.string ⟨#[]⟩, Value.int .i64 0, Value.int .i64 0, Value.int .i64 0, Value.slice none 0 0] : List Value) 4 (Value.bool x.yes) (fun W u h1 h2 => store_bool7 (x.yes) h1 h2) (show Blk W2 W0.heap.size 32 (([Value.int .i8 x.kd, Value.int .i64 x.b.pid, Value.int .i64 x.b.ep, Value.int .i64 0, Value.bool false, Value.slice none 0 0] : List Value) ++ ((Value.bool false) :: [Value.int .i64 0, Value.int .i64 0, Value.int .i64 0, Value.int .i64 0, Value.int .i64 0, Value.string ⟨#[]⟩, Value.string ⟨#[]⟩, Value.int .i64 0, Value.int .i64 0, Value.int .i64 0, Value.slice none 0 0])).toArray from KO2.out)
  have st3 : _ := st
  have KX3 := Lib.hid (fk _ _ _ HG.out.1 KX2.out)
  have KR3 := Lib.hid (fk _ _ _ HG.out.2.1 KR2.out)
  have B3 := Lib.hid (fb _ w HG.out.2.2 B2.out)
  have KO3 := Lib.hid (show Blk W3 W0.heap.size 32 #[Value.int .i8 x.kd, Value.int .i64 x.b.pid, Value.int .i64 x.b.ep, Value.int .i64 0, Value.bool false, Value.slice none 0 0, Value.bool x.yes, Value.int .i64 0, Value.int .i64 0, Value.int .i64 0, Value.int .i64 0, Value.int .i64 0, Value.string ⟨#[]⟩, Value.string ⟨#[]⟩, Value.int .i64 0, Value.int .i64 0, Value.int .i64 0, Value.slice none 0 0] from kO)
  clear st kO fb fk
  simp only [List.length_cons, List.length_nil, Nat.reduceAdd, Nat.zero_add] at st3
  go_upto_region 23 with (fail)
  clear st3 x6
  have LO := cells_blk KO3.out rfl
  obtain ⟨W9, st9, kw, fb, _⟩ := store_blk2 (cs := #[Value.int .i8 x.kd, Value.int .i64 x.b.pid, Value.int .i64 x.b.ep, Value.int .i64 0, Value.bool false, Value.slice none 0 0, Value.bool x.yes, Value.int .i64 0, Value.int .i64 0, Value.int .i64 0, Value.int .i64 0, Value.int .i64 0, Value.string ⟨#[]⟩, Value.string ⟨#[]⟩, Value.int .i64 0, Value.int .i64 0, Value.int .i64 0, Value.slice none 0 0]) KR3.out rfl rfl (by simp [Value.oneCell'])
  have BW := Lib.hid (fb _ w (Nat.le_succ _) B3.out)
  have KW := Lib.hid kw
  clear kw fb
  go_wp2_with fail
  have kq : Blk W9 (w.heap.size + 1) 32 #[.int .i8 (bareEn x).kd, .int .i64 (bareEn x).b.pid, .int .i64 (bareEn x).b.ep, .int .i64 (bareEn x).b.seq, .bool (bareEn x).b.txn, .slice none (bareEn x).b.rs.length 0, .bool (bareEn x).yes, .int .i64 (bareEn x).nx, .int .i64 (bareEn x).off, .int .i64 (bareEn x).row.1, .int .i64 (bareEn x).row.2.1, .int .i64 (bareEn x).row.2.2.1, .string (bareEn x).row.2.2.2.1, .string (bareEn x).row.2.2.2.2, .int .i64 (bareEn x).prod.pid, .int .i64 (bareEn x).prod.ep, .int .i64 (bareEn x).prod.nx, .slice none (bareEn x).prod.seen.length 0] := by rw [HQ.out]; exact KW.out
  refine bodyPost_ret (bare_ret (bareEn x) none none 0 0 _ (w.heap.size + 1) _ rfl kq) rfl ?_
  refine ⟨none, none, 0, 0, rfl, ?_, BW.out⟩
  rw [HQ.out]
  exact ⟨Reads.none_, Reads.none_, Nat.zero_le _, Nat.zero_le _⟩
set_option maxRecDepth 100000 in
set_option maxHeartbeats 4000000 in
theorem bare_2 (x : En) (hk : x.kd = 2) (A1 D1 : Option Addr) (c1 e1 : Nat) (w : World) (hr : EnR w x A1 D1) :
    Calls Tryz.prog 39 #[(.agg #[.int .i8 x.kd, .int .i64 x.b.pid, .int .i64 x.b.ep, .int .i64 x.b.seq, .bool x.b.txn, .slice A1 x.b.rs.length c1, .bool x.yes, .int .i64 x.nx, .int .i64 x.off, .int .i64 x.row.1, .int .i64 x.row.2.1, .int .i64 x.row.2.2.1, .string x.row.2.2.2.1, .string x.row.2.2.2.2, .int .i64 x.prod.pid, .int .i64 x.prod.ep, .int .i64 x.prod.nx, .slice D1 x.prod.seen.length e1])] w (BarePost x w) := by
  have HR := Lib.hid hr
  have HQ := Lib.hid (show bareEn x = { baseEn x.kd with off := x.off } by unfold bareEn; rw [hk]; rfl)
  have cc0 : (x.kd == 0) = false := by rw [hk]; rfl
  have cc1 : (x.kd == 1) = false := by rw [hk]; rfl
  have cc2 : (x.kd == 2) = true := by rw [hk]; rfl
  have cc3 : (x.kd == 3) = false := by rw [hk]; rfl
  have cc4 : (x.kd == 4) = false := by rw [hk]; rfl
  have cc5 : (x.kd == 5) = false := by rw [hk]; rfl
  have cc6 : (x.kd == 6) = false := by rw [hk]; rfl
  obtain ⟨W0, hW0⟩ : ∃ W0, W0 = (w.alloc (.cells #[.int .i8 x.kd, .int .i64 x.b.pid, .int .i64 x.b.ep, .int .i64 x.b.seq, .bool x.b.txn, .slice A1 x.b.rs.length c1, .bool x.yes, .int .i64 x.nx, .int .i64 x.off, .int .i64 x.row.1, .int .i64 x.row.2.1, .int .i64 x.row.2.2.1, .string x.row.2.2.2.1, .string x.row.2.2.2.2, .int .i64 x.prod.pid, .int .i64 x.prod.ep, .int .i64 x.prod.nx, .slice D1 x.prod.seen.length e1] 32)).alloc (.cells #[.int .i8 0, .int .i64 0, .int .i64 0, .int .i64 0, .bool false, .slice none 0 0, .bool false, .int .i64 0, .int .i64 0, .int .i64 0, .int .i64 0, .int .i64 0, .string ⟨#[]⟩, .string ⟨#[]⟩, .int .i64 0, .int .i64 0, .int .i64 0, .slice none 0 0] 32) := ⟨_, rfl⟩
  have KX0 : Blk W0 w.heap.size 32 #[.int .i8 x.kd, .int .i64 x.b.pid, .int .i64 x.b.ep, .int .i64 x.b.seq, .bool x.b.txn, .slice A1 x.b.rs.length c1, .bool x.yes, .int .i64 x.nx, .int .i64 x.off, .int .i64 x.row.1, .int .i64 x.row.2.1, .int .i64 x.row.2.2.1, .string x.row.2.2.2.1, .string x.row.2.2.2.2, .int .i64 x.prod.pid, .int .i64 x.prod.ep, .int .i64 x.prod.nx, .slice D1 x.prod.seen.length e1] := by rw [hW0]; exact (Blk.new _ _ _).alloc _
  have KR0 : Blk W0 (w.heap.size + 1) 32 ezero := by rw [hW0]; exact blk_new _ _ _ (by simp)
  have b0 : Below w.heap.size w W0 := by rw [hW0]; exact bal (bal (Below.refl _ _) _) _
  have hs0 : W0.heap.size = w.heap.size + 2 := by rw [hW0]; simp
  obtain ⟨W1, st1, kO, bb⟩ := fresh_en W0 #[Value.int .i8 x.kd, Value.int .i64 0, Value.int .i64 0, Value.int .i64 0, Value.bool false, Value.slice none 0 0, Value.bool false, Value.int .i64 0, Value.int .i64 0, Value.int .i64 0, Value.int .i64 0, Value.int .i64 0, Value.string ⟨#[]⟩, Value.string ⟨#[]⟩, Value.int .i64 0, Value.int .i64 0, Value.int .i64 0, Value.slice none 0 0] rfl (by simp [Value.oneCell'])
  have KX := KX0.below bb KX0.lt
  have KR := KR0.below bb KR0.lt
  have b1 := btrans b0 (bb.mono (by omega))
  have HW0 := Lib.hid hW0
  have x0 := KX0.cell 0
  have ST1 := Lib.hid st1
  have KX1 := Lib.hid KX
  have KR1 := Lib.hid KR
  have KO1 := Lib.hid kO
  have B1 := Lib.hid b1
  have HS0 := Lib.hid hs0
  have g1 : w.heap.size ≠ W0.heap.size := by omega
  have g2 : w.heap.size + 1 ≠ W0.heap.size := by omega
  have g3 : w.heap.size ≤ W0.heap.size := by omega
  have HG := Lib.hid (And.intro g1 (And.intro g2 g3))
  clear hW0 KX0 KR0 b0 hs0 st1 kO bb KX KR b1 g1 g2 g3 hr hk
  go_enter Tryz.func39, Tryz.ntmps39
  go_upto_region 1 with (fail)
  rw [← HW0.out]
  have st1 := ST1.out
  go_upto_region 2 with (fail)
  clear st1 x0
  have x0 := KX1.out.cell 0
  have x8 := KX1.out.cell 8
  obtain ⟨W2, st, kO, _, fb, fk⟩ := store_cell ([Value.int .i8 x.kd, Value.int .i64 0, Value.int .i64 0, Value.int .i64 0, Value.bool false, Value.slice none 0 0, Value.bool false, Value.int .i64 0] : List Value) (Value.int .i64 0) ([Value.int .i64 0, Value.int .i64 0, Value.int .i64 0, Value.string ⟨#[]⟩, Value.string ⟨#[]⟩, Value.int .i64 0, Value.int .i64 0, Value.int .i64 0, Value.slice none 0 0] : List Value) 3 (Value.int .i64 x.off) (fun W u h1 h2 => store_int7 (x.off) h1 h2) (show Blk W1 W0.heap.size 32 (([Value.int .i8 x.kd, Value.int .i64 0, Value.int .i64 0, Value.int .i64 0, Value.bool false, Value.slice none 0 0, Value.bool false, Value.int .i64 0] : List Value) ++ ((Value.int .i64 0) :: [Value.int .i64 0, Value.int .i64 0, Value.int .i64 0, Value.string ⟨#[]⟩, Value.string ⟨#[]⟩, Value.int .i64 0, Value.int .i64 0, Value.int .i64 0, Value.slice none 0 0])).toArray from KO1.out)
  have st2 : _ := st
  have KX2 := Lib.hid (fk _ _ _ HG.out.1 KX1.out)
  have KR2 := Lib.hid (fk _ _ _ HG.out.2.1 KR1.out)
  have B2 := Lib.hid (fb _ w HG.out.2.2 B1.out)
  have KO2 := Lib.hid (show Blk W2 W0.heap.size 32 #[Value.int .i8 x.kd, Value.int .i64 0, Value.int .i64 0, Value.int .i64 0, Value.bool false, Value.slice none 0 0, Value.bool false, Value.int .i64 0, Value.int .i64 x.off, Value.int .i64 0, Value.int .i64 0, Value.int .i64 0, Value.string ⟨#[]⟩, Value.string ⟨#[]⟩, Value.int .i64 0, Value.int .i64 0, Value.int .i64 0, Value.slice none 0 0] from kO)
  clear st kO fb fk
  simp only [List.length_cons, List.length_nil, Nat.reduceAdd, Nat.zero_add] at st2
  go_upto_region 23 with (fail)
  clear st2 x8
  have LO := cells_blk KO2.out rfl
  obtain ⟨W9, st9, kw, fb, _⟩ := store_blk2 (cs := #[Value.int .i8 x.kd, Value.int .i64 0, Value.int .i64 0, Value.int .i64 0, Value.bool false, Value.slice none 0 0, Value.bool false, Value.int .i64 0, Value.int .i64 x.off, Value.int .i64 0, Value.int .i64 0, Value.int .i64 0, Value.string ⟨#[]⟩, Value.string ⟨#[]⟩, Value.int .i64 0, Value.int .i64 0, Value.int .i64 0, Value.slice none 0 0]) KR2.out rfl rfl (by simp [Value.oneCell'])
  have BW := Lib.hid (fb _ w (Nat.le_succ _) B2.out)
  have KW := Lib.hid kw
  clear kw fb
  go_wp2_with fail
  have kq : Blk W9 (w.heap.size + 1) 32 #[.int .i8 (bareEn x).kd, .int .i64 (bareEn x).b.pid, .int .i64 (bareEn x).b.ep, .int .i64 (bareEn x).b.seq, .bool (bareEn x).b.txn, .slice none (bareEn x).b.rs.length 0, .bool (bareEn x).yes, .int .i64 (bareEn x).nx, .int .i64 (bareEn x).off, .int .i64 (bareEn x).row.1, .int .i64 (bareEn x).row.2.1, .int .i64 (bareEn x).row.2.2.1, .string (bareEn x).row.2.2.2.1, .string (bareEn x).row.2.2.2.2, .int .i64 (bareEn x).prod.pid, .int .i64 (bareEn x).prod.ep, .int .i64 (bareEn x).prod.nx, .slice none (bareEn x).prod.seen.length 0] := by rw [HQ.out]; exact KW.out
  refine bodyPost_ret (bare_ret (bareEn x) none none 0 0 _ (w.heap.size + 1) _ rfl kq) rfl ?_
  refine ⟨none, none, 0, 0, rfl, ?_, BW.out⟩
  rw [HQ.out]
  exact ⟨Reads.none_, Reads.none_, Nat.zero_le _, Nat.zero_le _⟩
set_option maxRecDepth 100000 in
set_option maxHeartbeats 4000000 in
theorem bare_3f (x : En) (hk : x.kd = 3) (hy : x.yes = false) (A1 D1 : Option Addr) (c1 e1 : Nat) (w : World) (hr : EnR w x A1 D1) :
    Calls Tryz.prog 39 #[(.agg #[.int .i8 x.kd, .int .i64 x.b.pid, .int .i64 x.b.ep, .int .i64 x.b.seq, .bool x.b.txn, .slice A1 x.b.rs.length c1, .bool x.yes, .int .i64 x.nx, .int .i64 x.off, .int .i64 x.row.1, .int .i64 x.row.2.1, .int .i64 x.row.2.2.1, .string x.row.2.2.2.1, .string x.row.2.2.2.2, .int .i64 x.prod.pid, .int .i64 x.prod.ep, .int .i64 x.prod.nx, .slice D1 x.prod.seen.length e1])] w (BarePost x w) := by
  have HR := Lib.hid hr
  have HQ := Lib.hid (show bareEn x = { baseEn x.kd with b := x.b, yes := x.yes } by unfold bareEn; rw [hk, hy]; rfl)
  have cc0 : (x.kd == 0) = false := by rw [hk]; rfl
  have cc1 : (x.kd == 1) = false := by rw [hk]; rfl
  have cc2 : (x.kd == 2) = false := by rw [hk]; rfl
  have cc3 : (x.kd == 3) = true := by rw [hk]; rfl
  have cc4 : (x.kd == 4) = false := by rw [hk]; rfl
  have cc5 : (x.kd == 5) = false := by rw [hk]; rfl
  have cc6 : (x.kd == 6) = false := by rw [hk]; rfl
  obtain ⟨W0, hW0⟩ : ∃ W0, W0 = (w.alloc (.cells #[.int .i8 x.kd, .int .i64 x.b.pid, .int .i64 x.b.ep, .int .i64 x.b.seq, .bool x.b.txn, .slice A1 x.b.rs.length c1, .bool x.yes, .int .i64 x.nx, .int .i64 x.off, .int .i64 x.row.1, .int .i64 x.row.2.1, .int .i64 x.row.2.2.1, .string x.row.2.2.2.1, .string x.row.2.2.2.2, .int .i64 x.prod.pid, .int .i64 x.prod.ep, .int .i64 x.prod.nx, .slice D1 x.prod.seen.length e1] 32)).alloc (.cells #[.int .i8 0, .int .i64 0, .int .i64 0, .int .i64 0, .bool false, .slice none 0 0, .bool false, .int .i64 0, .int .i64 0, .int .i64 0, .int .i64 0, .int .i64 0, .string ⟨#[]⟩, .string ⟨#[]⟩, .int .i64 0, .int .i64 0, .int .i64 0, .slice none 0 0] 32) := ⟨_, rfl⟩
  have KX0 : Blk W0 w.heap.size 32 #[.int .i8 x.kd, .int .i64 x.b.pid, .int .i64 x.b.ep, .int .i64 x.b.seq, .bool x.b.txn, .slice A1 x.b.rs.length c1, .bool x.yes, .int .i64 x.nx, .int .i64 x.off, .int .i64 x.row.1, .int .i64 x.row.2.1, .int .i64 x.row.2.2.1, .string x.row.2.2.2.1, .string x.row.2.2.2.2, .int .i64 x.prod.pid, .int .i64 x.prod.ep, .int .i64 x.prod.nx, .slice D1 x.prod.seen.length e1] := by rw [hW0]; exact (Blk.new _ _ _).alloc _
  have KR0 : Blk W0 (w.heap.size + 1) 32 ezero := by rw [hW0]; exact blk_new _ _ _ (by simp)
  have b0 : Below w.heap.size w W0 := by rw [hW0]; exact bal (bal (Below.refl _ _) _) _
  have hs0 : W0.heap.size = w.heap.size + 2 := by rw [hW0]; simp
  obtain ⟨W1, st1, kO, bb⟩ := fresh_en W0 #[Value.int .i8 x.kd, Value.int .i64 0, Value.int .i64 0, Value.int .i64 0, Value.bool false, Value.slice none 0 0, Value.bool false, Value.int .i64 0, Value.int .i64 0, Value.int .i64 0, Value.int .i64 0, Value.int .i64 0, Value.string ⟨#[]⟩, Value.string ⟨#[]⟩, Value.int .i64 0, Value.int .i64 0, Value.int .i64 0, Value.slice none 0 0] rfl (by simp [Value.oneCell'])
  have KX := KX0.below bb KX0.lt
  have KR := KR0.below bb KR0.lt
  have b1 := btrans b0 (bb.mono (by omega))
  have HW0 := Lib.hid hW0
  have x0 := KX0.cell 0
  have ST1 := Lib.hid st1
  have KX1 := Lib.hid KX
  have KR1 := Lib.hid KR
  have KO1 := Lib.hid kO
  have B1 := Lib.hid b1
  have HS0 := Lib.hid hs0
  have g1 : w.heap.size ≠ W0.heap.size := by omega
  have g2 : w.heap.size + 1 ≠ W0.heap.size := by omega
  have g3 : w.heap.size ≤ W0.heap.size := by omega
  have HG := Lib.hid (And.intro g1 (And.intro g2 g3))
  clear hW0 KX0 KR0 b0 hs0 st1 kO bb KX KR b1 g1 g2 g3 hr hk
  have HY := Lib.hid hy
  clear hy
  go_enter Tryz.func39, Tryz.ntmps39
  go_upto_region 1 with (fail)
  rw [← HW0.out]
  have st1 := ST1.out
  go_upto_region 2 with (fail)
  clear st1 x0
  have x0 := KX1.out.cell 0
  have LB := cells_off KX1.out 1 5 rfl rfl
  obtain ⟨W2, st, kO, _, fb, fk⟩ := store_off ([Value.int .i8 x.kd] : List Value) ([Value.int .i64 0, Value.int .i64 0, Value.int .i64 0, Value.bool false, Value.slice none 0 0] : List Value) ([Value.bool false, Value.int .i64 0, Value.int .i64 0, Value.int .i64 0, Value.int .i64 0, Value.int .i64 0, Value.string ⟨#[]⟩, Value.string ⟨#[]⟩, Value.int .i64 0, Value.int .i64 0, Value.int .i64 0, Value.slice none 0 0] : List Value) 25 (#[Value.int .i64 x.b.pid, Value.int .i64 x.b.ep, Value.int .i64 x.b.seq, Value.bool x.b.txn, Value.slice A1 x.b.rs.length c1] : Array Value) (show Blk W1 W0.heap.size 32 (([Value.int .i8 x.kd] : List Value) ++ ([Value.int .i64 0, Value.int .i64 0, Value.int .i64 0, Value.bool false, Value.slice none 0 0] ++ [Value.bool false, Value.int .i64 0, Value.int .i64 0, Value.int .i64 0, Value.int .i64 0, Value.int .i64 0, Value.string ⟨#[]⟩, Value.string ⟨#[]⟩, Value.int .i64 0, Value.int .i64 0, Value.int .i64 0, Value.slice none 0 0])).toArray from KO1.out) rfl (by kernel_rfl) (by simp [Value.oneCell'])
  have st2 : _ := st
  have KX2 := Lib.hid (fk _ _ _ HG.out.1 KX1.out)
  have KR2 := Lib.hid (fk _ _ _ HG.out.2.1 KR1.out)
  have B2 := Lib.hid (fb _ w HG.out.2.2 B1.out)
  have KO2 := Lib.hid (show Blk W2 W0.heap.size 32 #[Value.int .i8 x.kd, Value.int .i64 x.b.pid, Value.int .i64 x.b.ep, Value.int .i64 x.b.seq, Value.bool x.b.txn, Value.slice A1 x.b.rs.length c1, Value.bool false, Value.int .i64 0, Value.int .i64 0, Value.int .i64 0, Value.int .i64 0, Value.int .i64 0, Value.string ⟨#[]⟩, Value.string ⟨#[]⟩, Value.int .i64 0, Value.int .i64 0, Value.int .i64 0, Value.slice none 0 0] from kO)
  clear st kO fb fk
  simp only [List.length_cons, List.length_nil, Nat.reduceAdd, Nat.zero_add] at st2
  go_upto_region 12 with (fail)
  clear st2 LB 
  have x6 := KX2.out.cell 6
  obtain ⟨W3, st, kO, _, fb, fk⟩ := store_cell ([Value.int .i8 x.kd, Value.int .i64 x.b.pid, Value.int .i64 x.b.ep, Value.int .i64 x.b.seq, Value.bool x.b.txn, Value.slice A1 x.b.rs.length c1] : List Value) (Value.bool false) ([Value.int .i64 0, Value.int .i64 0, Value.int .i64 0, Value.int .i64 0, Value.int .i64 0, Value.string ⟨#[]⟩, Value.string ⟨#[]⟩, Value.int .i64 0, Value.int .i64 0, Value.int .i64 0, Value.slice none 0 0] : List Value) 4 (Value.bool x.yes) (fun W u h1 h2 => store_bool7 (x.yes) h1 h2) (show Blk W2 W0.heap.size 32 (([Value.int .i8 x.kd, Value.int .i64 x.b.pid, Value.int .i64 x.b.ep, Value.int .i64 x.b.seq, Value.bool x.b.txn, Value.slice A1 x.b.rs.length c1] : List Value) ++ ((Value.bool false) :: [Value.int .i64 0, Value.int .i64 0, Value.int .i64 0, Value.int .i64 0, Value.int .i64 0, Value.string ⟨#[]⟩, Value.string ⟨#[]⟩, Value.int .i64 0, Value.int .i64 0, Value.int .i64 0, Value.slice none 0 0])).toArray from KO2.out)
  have st3 : _ := st
  have KX3 := Lib.hid (fk _ _ _ HG.out.1 KX2.out)
  have KR3 := Lib.hid (fk _ _ _ HG.out.2.1 KR2.out)
  have B3 := Lib.hid (fb _ w HG.out.2.2 B2.out)
  have KO3 := Lib.hid (show Blk W3 W0.heap.size 32 #[Value.int .i8 x.kd, Value.int .i64 x.b.pid, Value.int .i64 x.b.ep, Value.int .i64 x.b.seq, Value.bool x.b.txn, Value.slice A1 x.b.rs.length c1, Value.bool x.yes, Value.int .i64 0, Value.int .i64 0, Value.int .i64 0, Value.int .i64 0, Value.int .i64 0, Value.string ⟨#[]⟩, Value.string ⟨#[]⟩, Value.int .i64 0, Value.int .i64 0, Value.int .i64 0, Value.slice none 0 0] from kO)
  clear st kO fb fk
  simp only [List.length_cons, List.length_nil, Nat.reduceAdd, Nat.zero_add] at st3
  go_upto_region 13 with (fail)
  clear st3 x6
  have x6 := KX3.out.cell 6
  rw [HY.out] at x6
  go_upto_region 23 with (fail)
  clear x6
  have LO := cells_blk KO3.out rfl
  obtain ⟨W9, st9, kw, fb, _⟩ := store_blk2 (cs := #[Value.int .i8 x.kd, Value.int .i64 x.b.pid, Value.int .i64 x.b.ep, Value.int .i64 x.b.seq, Value.bool x.b.txn, Value.slice A1 x.b.rs.length c1, Value.bool x.yes, Value.int .i64 0, Value.int .i64 0, Value.int .i64 0, Value.int .i64 0, Value.int .i64 0, Value.string ⟨#[]⟩, Value.string ⟨#[]⟩, Value.int .i64 0, Value.int .i64 0, Value.int .i64 0, Value.slice none 0 0]) KR3.out rfl rfl (by simp [Value.oneCell'])
  have BW := Lib.hid (fb _ w (Nat.le_succ _) B3.out)
  have KW := Lib.hid kw
  clear kw fb
  go_wp2_with fail
  have kq : Blk W9 (w.heap.size + 1) 32 #[.int .i8 (bareEn x).kd, .int .i64 (bareEn x).b.pid, .int .i64 (bareEn x).b.ep, .int .i64 (bareEn x).b.seq, .bool (bareEn x).b.txn, .slice A1 (bareEn x).b.rs.length c1, .bool (bareEn x).yes, .int .i64 (bareEn x).nx, .int .i64 (bareEn x).off, .int .i64 (bareEn x).row.1, .int .i64 (bareEn x).row.2.1, .int .i64 (bareEn x).row.2.2.1, .string (bareEn x).row.2.2.2.1, .string (bareEn x).row.2.2.2.2, .int .i64 (bareEn x).prod.pid, .int .i64 (bareEn x).prod.ep, .int .i64 (bareEn x).prod.nx, .slice none (bareEn x).prod.seen.length 0] := by rw [HQ.out]; exact KW.out
  refine bodyPost_ret (bare_ret (bareEn x) A1 none c1 0 _ (w.heap.size + 1) _ rfl kq) rfl ?_
  refine ⟨A1, none, c1, 0, rfl, ?_, BW.out⟩
  rw [HQ.out]
  exact ⟨(HR.out.up BW.out).1, Reads.none_, HR.out.2.2.1, Nat.zero_le _⟩
set_option maxRecDepth 100000 in
set_option maxHeartbeats 4000000 in
theorem bare_3t (x : En) (hk : x.kd = 3) (hy : x.yes = true) (A1 D1 : Option Addr) (c1 e1 : Nat) (w : World) (hr : EnR w x A1 D1) :
    Calls Tryz.prog 39 #[(.agg #[.int .i8 x.kd, .int .i64 x.b.pid, .int .i64 x.b.ep, .int .i64 x.b.seq, .bool x.b.txn, .slice A1 x.b.rs.length c1, .bool x.yes, .int .i64 x.nx, .int .i64 x.off, .int .i64 x.row.1, .int .i64 x.row.2.1, .int .i64 x.row.2.2.1, .string x.row.2.2.2.1, .string x.row.2.2.2.2, .int .i64 x.prod.pid, .int .i64 x.prod.ep, .int .i64 x.prod.nx, .slice D1 x.prod.seen.length e1])] w (BarePost x w) := by
  have HR := Lib.hid hr
  have HQ := Lib.hid (show bareEn x = { baseEn x.kd with b := x.b, yes := x.yes, nx := x.nx } by unfold bareEn; rw [hk, hy]; rfl)
  have cc0 : (x.kd == 0) = false := by rw [hk]; rfl
  have cc1 : (x.kd == 1) = false := by rw [hk]; rfl
  have cc2 : (x.kd == 2) = false := by rw [hk]; rfl
  have cc3 : (x.kd == 3) = true := by rw [hk]; rfl
  have cc4 : (x.kd == 4) = false := by rw [hk]; rfl
  have cc5 : (x.kd == 5) = false := by rw [hk]; rfl
  have cc6 : (x.kd == 6) = false := by rw [hk]; rfl
  obtain ⟨W0, hW0⟩ : ∃ W0, W0 = (w.alloc (.cells #[.int .i8 x.kd, .int .i64 x.b.pid, .int .i64 x.b.ep, .int .i64 x.b.seq, .bool x.b.txn, .slice A1 x.b.rs.length c1, .bool x.yes, .int .i64 x.nx, .int .i64 x.off, .int .i64 x.row.1, .int .i64 x.row.2.1, .int .i64 x.row.2.2.1, .string x.row.2.2.2.1, .string x.row.2.2.2.2, .int .i64 x.prod.pid, .int .i64 x.prod.ep, .int .i64 x.prod.nx, .slice D1 x.prod.seen.length e1] 32)).alloc (.cells #[.int .i8 0, .int .i64 0, .int .i64 0, .int .i64 0, .bool false, .slice none 0 0, .bool false, .int .i64 0, .int .i64 0, .int .i64 0, .int .i64 0, .int .i64 0, .string ⟨#[]⟩, .string ⟨#[]⟩, .int .i64 0, .int .i64 0, .int .i64 0, .slice none 0 0] 32) := ⟨_, rfl⟩
  have KX0 : Blk W0 w.heap.size 32 #[.int .i8 x.kd, .int .i64 x.b.pid, .int .i64 x.b.ep, .int .i64 x.b.seq, .bool x.b.txn, .slice A1 x.b.rs.length c1, .bool x.yes, .int .i64 x.nx, .int .i64 x.off, .int .i64 x.row.1, .int .i64 x.row.2.1, .int .i64 x.row.2.2.1, .string x.row.2.2.2.1, .string x.row.2.2.2.2, .int .i64 x.prod.pid, .int .i64 x.prod.ep, .int .i64 x.prod.nx, .slice D1 x.prod.seen.length e1] := by rw [hW0]; exact (Blk.new _ _ _).alloc _
  have KR0 : Blk W0 (w.heap.size + 1) 32 ezero := by rw [hW0]; exact blk_new _ _ _ (by simp)
  have b0 : Below w.heap.size w W0 := by rw [hW0]; exact bal (bal (Below.refl _ _) _) _
  have hs0 : W0.heap.size = w.heap.size + 2 := by rw [hW0]; simp
  obtain ⟨W1, st1, kO, bb⟩ := fresh_en W0 #[Value.int .i8 x.kd, Value.int .i64 0, Value.int .i64 0, Value.int .i64 0, Value.bool false, Value.slice none 0 0, Value.bool false, Value.int .i64 0, Value.int .i64 0, Value.int .i64 0, Value.int .i64 0, Value.int .i64 0, Value.string ⟨#[]⟩, Value.string ⟨#[]⟩, Value.int .i64 0, Value.int .i64 0, Value.int .i64 0, Value.slice none 0 0] rfl (by simp [Value.oneCell'])
  have KX := KX0.below bb KX0.lt
  have KR := KR0.below bb KR0.lt
  have b1 := btrans b0 (bb.mono (by omega))
  have HW0 := Lib.hid hW0
  have x0 := KX0.cell 0
  have ST1 := Lib.hid st1
  have KX1 := Lib.hid KX
  have KR1 := Lib.hid KR
  have KO1 := Lib.hid kO
  have B1 := Lib.hid b1
  have HS0 := Lib.hid hs0
  have g1 : w.heap.size ≠ W0.heap.size := by omega
  have g2 : w.heap.size + 1 ≠ W0.heap.size := by omega
  have g3 : w.heap.size ≤ W0.heap.size := by omega
  have HG := Lib.hid (And.intro g1 (And.intro g2 g3))
  clear hW0 KX0 KR0 b0 hs0 st1 kO bb KX KR b1 g1 g2 g3 hr hk
  have HY := Lib.hid hy
  clear hy
  go_enter Tryz.func39, Tryz.ntmps39
  go_upto_region 1 with (fail)
  rw [← HW0.out]
  have st1 := ST1.out
  go_upto_region 2 with (fail)
  clear st1 x0
  have x0 := KX1.out.cell 0
  have LB := cells_off KX1.out 1 5 rfl rfl
  obtain ⟨W2, st, kO, _, fb, fk⟩ := store_off ([Value.int .i8 x.kd] : List Value) ([Value.int .i64 0, Value.int .i64 0, Value.int .i64 0, Value.bool false, Value.slice none 0 0] : List Value) ([Value.bool false, Value.int .i64 0, Value.int .i64 0, Value.int .i64 0, Value.int .i64 0, Value.int .i64 0, Value.string ⟨#[]⟩, Value.string ⟨#[]⟩, Value.int .i64 0, Value.int .i64 0, Value.int .i64 0, Value.slice none 0 0] : List Value) 25 (#[Value.int .i64 x.b.pid, Value.int .i64 x.b.ep, Value.int .i64 x.b.seq, Value.bool x.b.txn, Value.slice A1 x.b.rs.length c1] : Array Value) (show Blk W1 W0.heap.size 32 (([Value.int .i8 x.kd] : List Value) ++ ([Value.int .i64 0, Value.int .i64 0, Value.int .i64 0, Value.bool false, Value.slice none 0 0] ++ [Value.bool false, Value.int .i64 0, Value.int .i64 0, Value.int .i64 0, Value.int .i64 0, Value.int .i64 0, Value.string ⟨#[]⟩, Value.string ⟨#[]⟩, Value.int .i64 0, Value.int .i64 0, Value.int .i64 0, Value.slice none 0 0])).toArray from KO1.out) rfl (by kernel_rfl) (by simp [Value.oneCell'])
  have st2 : _ := st
  have KX2 := Lib.hid (fk _ _ _ HG.out.1 KX1.out)
  have KR2 := Lib.hid (fk _ _ _ HG.out.2.1 KR1.out)
  have B2 := Lib.hid (fb _ w HG.out.2.2 B1.out)
  have KO2 := Lib.hid (show Blk W2 W0.heap.size 32 #[Value.int .i8 x.kd, Value.int .i64 x.b.pid, Value.int .i64 x.b.ep, Value.int .i64 x.b.seq, Value.bool x.b.txn, Value.slice A1 x.b.rs.length c1, Value.bool false, Value.int .i64 0, Value.int .i64 0, Value.int .i64 0, Value.int .i64 0, Value.int .i64 0, Value.string ⟨#[]⟩, Value.string ⟨#[]⟩, Value.int .i64 0, Value.int .i64 0, Value.int .i64 0, Value.slice none 0 0] from kO)
  clear st kO fb fk
  simp only [List.length_cons, List.length_nil, Nat.reduceAdd, Nat.zero_add] at st2
  go_upto_region 12 with (fail)
  clear st2 LB 
  have x6 := KX2.out.cell 6
  obtain ⟨W3, st, kO, _, fb, fk⟩ := store_cell ([Value.int .i8 x.kd, Value.int .i64 x.b.pid, Value.int .i64 x.b.ep, Value.int .i64 x.b.seq, Value.bool x.b.txn, Value.slice A1 x.b.rs.length c1] : List Value) (Value.bool false) ([Value.int .i64 0, Value.int .i64 0, Value.int .i64 0, Value.int .i64 0, Value.int .i64 0, Value.string ⟨#[]⟩, Value.string ⟨#[]⟩, Value.int .i64 0, Value.int .i64 0, Value.int .i64 0, Value.slice none 0 0] : List Value) 4 (Value.bool x.yes) (fun W u h1 h2 => store_bool7 (x.yes) h1 h2) (show Blk W2 W0.heap.size 32 (([Value.int .i8 x.kd, Value.int .i64 x.b.pid, Value.int .i64 x.b.ep, Value.int .i64 x.b.seq, Value.bool x.b.txn, Value.slice A1 x.b.rs.length c1] : List Value) ++ ((Value.bool false) :: [Value.int .i64 0, Value.int .i64 0, Value.int .i64 0, Value.int .i64 0, Value.int .i64 0, Value.string ⟨#[]⟩, Value.string ⟨#[]⟩, Value.int .i64 0, Value.int .i64 0, Value.int .i64 0, Value.slice none 0 0])).toArray from KO2.out)
  have st3 : _ := st
  have KX3 := Lib.hid (fk _ _ _ HG.out.1 KX2.out)
  have KR3 := Lib.hid (fk _ _ _ HG.out.2.1 KR2.out)
  have B3 := Lib.hid (fb _ w HG.out.2.2 B2.out)
  have KO3 := Lib.hid (show Blk W3 W0.heap.size 32 #[Value.int .i8 x.kd, Value.int .i64 x.b.pid, Value.int .i64 x.b.ep, Value.int .i64 x.b.seq, Value.bool x.b.txn, Value.slice A1 x.b.rs.length c1, Value.bool x.yes, Value.int .i64 0, Value.int .i64 0, Value.int .i64 0, Value.int .i64 0, Value.int .i64 0, Value.string ⟨#[]⟩, Value.string ⟨#[]⟩, Value.int .i64 0, Value.int .i64 0, Value.int .i64 0, Value.slice none 0 0] from kO)
  clear st kO fb fk
  simp only [List.length_cons, List.length_nil, Nat.reduceAdd, Nat.zero_add] at st3
  go_upto_region 13 with (fail)
  clear st3 x6
  have x6 := KX3.out.cell 6
  rw [HY.out] at x6
  go_upto_region 14 with (fail)
  clear x6
  have x7 := KX3.out.cell 7
  obtain ⟨W4, st, kO, _, fb, fk⟩ := store_cell ([Value.int .i8 x.kd, Value.int .i64 x.b.pid, Value.int .i64 x.b.ep, Value.int .i64 x.b.seq, Value.bool x.b.txn, Value.slice A1 x.b.rs.length c1, Value.bool x.yes] : List Value) (Value.int .i64 0) ([Value.int .i64 0, Value.int .i64 0, Value.int .i64 0, Value.int .i64 0, Value.string ⟨#[]⟩, Value.string ⟨#[]⟩, Value.int .i64 0, Value.int .i64 0, Value.int .i64 0, Value.slice none 0 0] : List Value) 3 (Value.int .i64 x.nx) (fun W u h1 h2 => store_int7 (x.nx) h1 h2) (show Blk W3 W0.heap.size 32 (([Value.int .i8 x.kd, Value.int .i64 x.b.pid, Value.int .i64 x.b.ep, Value.int .i64 x.b.seq, Value.bool x.b.txn, Value.slice A1 x.b.rs.length c1, Value.bool x.yes] : List Value) ++ ((Value.int .i64 0) :: [Value.int .i64 0, Value.int .i64 0, Value.int .i64 0, Value.int .i64 0, Value.string ⟨#[]⟩, Value.string ⟨#[]⟩, Value.int .i64 0, Value.int .i64 0, Value.int .i64 0, Value.slice none 0 0])).toArray from KO3.out)
  have st4 : _ := st
  have KX4 := Lib.hid (fk _ _ _ HG.out.1 KX3.out)
  have KR4 := Lib.hid (fk _ _ _ HG.out.2.1 KR3.out)
  have B4 := Lib.hid (fb _ w HG.out.2.2 B3.out)
  have KO4 := Lib.hid (show Blk W4 W0.heap.size 32 #[Value.int .i8 x.kd, Value.int .i64 x.b.pid, Value.int .i64 x.b.ep, Value.int .i64 x.b.seq, Value.bool x.b.txn, Value.slice A1 x.b.rs.length c1, Value.bool x.yes, Value.int .i64 x.nx, Value.int .i64 0, Value.int .i64 0, Value.int .i64 0, Value.int .i64 0, Value.string ⟨#[]⟩, Value.string ⟨#[]⟩, Value.int .i64 0, Value.int .i64 0, Value.int .i64 0, Value.slice none 0 0] from kO)
  clear st kO fb fk
  simp only [List.length_cons, List.length_nil, Nat.reduceAdd, Nat.zero_add] at st4
  go_upto_region 23 with (fail)
  clear st4 x7
  have LO := cells_blk KO4.out rfl
  obtain ⟨W9, st9, kw, fb, _⟩ := store_blk2 (cs := #[Value.int .i8 x.kd, Value.int .i64 x.b.pid, Value.int .i64 x.b.ep, Value.int .i64 x.b.seq, Value.bool x.b.txn, Value.slice A1 x.b.rs.length c1, Value.bool x.yes, Value.int .i64 x.nx, Value.int .i64 0, Value.int .i64 0, Value.int .i64 0, Value.int .i64 0, Value.string ⟨#[]⟩, Value.string ⟨#[]⟩, Value.int .i64 0, Value.int .i64 0, Value.int .i64 0, Value.slice none 0 0]) KR4.out rfl rfl (by simp [Value.oneCell'])
  have BW := Lib.hid (fb _ w (Nat.le_succ _) B4.out)
  have KW := Lib.hid kw
  clear kw fb
  go_wp2_with fail
  have kq : Blk W9 (w.heap.size + 1) 32 #[.int .i8 (bareEn x).kd, .int .i64 (bareEn x).b.pid, .int .i64 (bareEn x).b.ep, .int .i64 (bareEn x).b.seq, .bool (bareEn x).b.txn, .slice A1 (bareEn x).b.rs.length c1, .bool (bareEn x).yes, .int .i64 (bareEn x).nx, .int .i64 (bareEn x).off, .int .i64 (bareEn x).row.1, .int .i64 (bareEn x).row.2.1, .int .i64 (bareEn x).row.2.2.1, .string (bareEn x).row.2.2.2.1, .string (bareEn x).row.2.2.2.2, .int .i64 (bareEn x).prod.pid, .int .i64 (bareEn x).prod.ep, .int .i64 (bareEn x).prod.nx, .slice none (bareEn x).prod.seen.length 0] := by rw [HQ.out]; exact KW.out
  refine bodyPost_ret (bare_ret (bareEn x) A1 none c1 0 _ (w.heap.size + 1) _ rfl kq) rfl ?_
  refine ⟨A1, none, c1, 0, rfl, ?_, BW.out⟩
  rw [HQ.out]
  exact ⟨(HR.out.up BW.out).1, Reads.none_, HR.out.2.2.1, Nat.zero_le _⟩
set_option maxRecDepth 100000 in
set_option maxHeartbeats 4000000 in
theorem bare_4 (x : En) (hk : x.kd = 4) (A1 D1 : Option Addr) (c1 e1 : Nat) (w : World) (hr : EnR w x A1 D1) :
    Calls Tryz.prog 39 #[(.agg #[.int .i8 x.kd, .int .i64 x.b.pid, .int .i64 x.b.ep, .int .i64 x.b.seq, .bool x.b.txn, .slice A1 x.b.rs.length c1, .bool x.yes, .int .i64 x.nx, .int .i64 x.off, .int .i64 x.row.1, .int .i64 x.row.2.1, .int .i64 x.row.2.2.1, .string x.row.2.2.2.1, .string x.row.2.2.2.2, .int .i64 x.prod.pid, .int .i64 x.prod.ep, .int .i64 x.prod.nx, .slice D1 x.prod.seen.length e1])] w (BarePost x w) := by
  have HR := Lib.hid hr
  have HQ := Lib.hid (show bareEn x = { baseEn x.kd with b := wh x.b.pid x.b.ep, nx := x.nx } by unfold bareEn; rw [hk]; rfl)
  have cc0 : (x.kd == 0) = false := by rw [hk]; rfl
  have cc1 : (x.kd == 1) = false := by rw [hk]; rfl
  have cc2 : (x.kd == 2) = false := by rw [hk]; rfl
  have cc3 : (x.kd == 3) = false := by rw [hk]; rfl
  have cc4 : (x.kd == 4) = true := by rw [hk]; rfl
  have cc5 : (x.kd == 5) = false := by rw [hk]; rfl
  have cc6 : (x.kd == 6) = false := by rw [hk]; rfl
  obtain ⟨W0, hW0⟩ : ∃ W0, W0 = (w.alloc (.cells #[.int .i8 x.kd, .int .i64 x.b.pid, .int .i64 x.b.ep, .int .i64 x.b.seq, .bool x.b.txn, .slice A1 x.b.rs.length c1, .bool x.yes, .int .i64 x.nx, .int .i64 x.off, .int .i64 x.row.1, .int .i64 x.row.2.1, .int .i64 x.row.2.2.1, .string x.row.2.2.2.1, .string x.row.2.2.2.2, .int .i64 x.prod.pid, .int .i64 x.prod.ep, .int .i64 x.prod.nx, .slice D1 x.prod.seen.length e1] 32)).alloc (.cells #[.int .i8 0, .int .i64 0, .int .i64 0, .int .i64 0, .bool false, .slice none 0 0, .bool false, .int .i64 0, .int .i64 0, .int .i64 0, .int .i64 0, .int .i64 0, .string ⟨#[]⟩, .string ⟨#[]⟩, .int .i64 0, .int .i64 0, .int .i64 0, .slice none 0 0] 32) := ⟨_, rfl⟩
  have KX0 : Blk W0 w.heap.size 32 #[.int .i8 x.kd, .int .i64 x.b.pid, .int .i64 x.b.ep, .int .i64 x.b.seq, .bool x.b.txn, .slice A1 x.b.rs.length c1, .bool x.yes, .int .i64 x.nx, .int .i64 x.off, .int .i64 x.row.1, .int .i64 x.row.2.1, .int .i64 x.row.2.2.1, .string x.row.2.2.2.1, .string x.row.2.2.2.2, .int .i64 x.prod.pid, .int .i64 x.prod.ep, .int .i64 x.prod.nx, .slice D1 x.prod.seen.length e1] := by rw [hW0]; exact (Blk.new _ _ _).alloc _
  have KR0 : Blk W0 (w.heap.size + 1) 32 ezero := by rw [hW0]; exact blk_new _ _ _ (by simp)
  have b0 : Below w.heap.size w W0 := by rw [hW0]; exact bal (bal (Below.refl _ _) _) _
  have hs0 : W0.heap.size = w.heap.size + 2 := by rw [hW0]; simp
  obtain ⟨W1, st1, kO, bb⟩ := fresh_en W0 #[Value.int .i8 x.kd, Value.int .i64 0, Value.int .i64 0, Value.int .i64 0, Value.bool false, Value.slice none 0 0, Value.bool false, Value.int .i64 0, Value.int .i64 0, Value.int .i64 0, Value.int .i64 0, Value.int .i64 0, Value.string ⟨#[]⟩, Value.string ⟨#[]⟩, Value.int .i64 0, Value.int .i64 0, Value.int .i64 0, Value.slice none 0 0] rfl (by simp [Value.oneCell'])
  have KX := KX0.below bb KX0.lt
  have KR := KR0.below bb KR0.lt
  have b1 := btrans b0 (bb.mono (by omega))
  have HW0 := Lib.hid hW0
  have x0 := KX0.cell 0
  have ST1 := Lib.hid st1
  have KX1 := Lib.hid KX
  have KR1 := Lib.hid KR
  have KO1 := Lib.hid kO
  have B1 := Lib.hid b1
  have HS0 := Lib.hid hs0
  have g1 : w.heap.size ≠ W0.heap.size := by omega
  have g2 : w.heap.size + 1 ≠ W0.heap.size := by omega
  have g3 : w.heap.size ≤ W0.heap.size := by omega
  have HG := Lib.hid (And.intro g1 (And.intro g2 g3))
  clear hW0 KX0 KR0 b0 hs0 st1 kO bb KX KR b1 g1 g2 g3 hr hk
  go_enter Tryz.func39, Tryz.ntmps39
  go_upto_region 1 with (fail)
  rw [← HW0.out]
  have st1 := ST1.out
  go_upto_region 2 with (fail)
  clear st1 x0
  have x0 := KX1.out.cell 0
  have x1 := KX1.out.cell 1
  have x2 := KX1.out.cell 2
  obtain ⟨W2, st, kO, _, fb, fk⟩ := store_off ([Value.int .i8 x.kd] : List Value) ([Value.int .i64 0, Value.int .i64 0, Value.int .i64 0, Value.bool false, Value.slice none 0 0] : List Value) ([Value.bool false, Value.int .i64 0, Value.int .i64 0, Value.int .i64 0, Value.int .i64 0, Value.int .i64 0, Value.string ⟨#[]⟩, Value.string ⟨#[]⟩, Value.int .i64 0, Value.int .i64 0, Value.int .i64 0, Value.slice none 0 0] : List Value) 25 (#[Value.int .i64 x.b.pid, Value.int .i64 x.b.ep, Value.int .i64 0, Value.bool false, Value.slice none 0 0] : Array Value) (show Blk W1 W0.heap.size 32 (([Value.int .i8 x.kd] : List Value) ++ ([Value.int .i64 0, Value.int .i64 0, Value.int .i64 0, Value.bool false, Value.slice none 0 0] ++ [Value.bool false, Value.int .i64 0, Value.int .i64 0, Value.int .i64 0, Value.int .i64 0, Value.int .i64 0, Value.string ⟨#[]⟩, Value.string ⟨#[]⟩, Value.int .i64 0, Value.int .i64 0, Value.int .i64 0, Value.slice none 0 0])).toArray from KO1.out) rfl (by kernel_rfl) (by simp [Value.oneCell'])
  have st2 : _ := st
  have KX2 := Lib.hid (fk _ _ _ HG.out.1 KX1.out)
  have KR2 := Lib.hid (fk _ _ _ HG.out.2.1 KR1.out)
  have B2 := Lib.hid (fb _ w HG.out.2.2 B1.out)
  have KO2 := Lib.hid (show Blk W2 W0.heap.size 32 #[Value.int .i8 x.kd, Value.int .i64 x.b.pid, Value.int .i64 x.b.ep, Value.int .i64 0, Value.bool false, Value.slice none 0 0, Value.bool false, Value.int .i64 0, Value.int .i64 0, Value.int .i64 0, Value.int .i64 0, Value.int .i64 0, Value.string ⟨#[]⟩, Value.string ⟨#[]⟩, Value.int .i64 0, Value.int .i64 0, Value.int .i64 0, Value.slice none 0 0] from kO)
  clear st kO fb fk
  simp only [List.length_cons, List.length_nil, Nat.reduceAdd, Nat.zero_add] at st2
  go_upto_region 17 with (fail)
  clear st2 x1 x2
  have x7 := KX2.out.cell 7
  obtain ⟨W3, st, kO, _, fb, fk⟩ := store_cell ([Value.int .i8 x.kd, Value.int .i64 x.b.pid, Value.int .i64 x.b.ep, Value.int .i64 0, Value.bool false, Value.slice none 0 0, Value.bool false] : List Value) (Value.int .i64 0) ([Value.int .i64 0, Value.int .i64 0, Value.int .i64 0, Value.int .i64 0, Value.string ⟨#[]⟩, Value.string ⟨#[]⟩, Value.int .i64 0, Value.int .i64 0, Value.int .i64 0, Value.slice none 0 0] : List Value) 3 (Value.int .i64 x.nx) (fun W u h1 h2 => store_int7 (x.nx) h1 h2) (show Blk W2 W0.heap.size 32 (([Value.int .i8 x.kd, Value.int .i64 x.b.pid, Value.int .i64 x.b.ep, Value.int .i64 0, Value.bool false, Value.slice none 0 0, Value.bool false] : List Value) ++ ((Value.int .i64 0) :: [Value.int .i64 0, Value.int .i64 0, Value.int .i64 0, Value.int .i64 0, Value.string ⟨#[]⟩, Value.string ⟨#[]⟩, Value.int .i64 0, Value.int .i64 0, Value.int .i64 0, Value.slice none 0 0])).toArray from KO2.out)
  have st3 : _ := st
  have KX3 := Lib.hid (fk _ _ _ HG.out.1 KX2.out)
  have KR3 := Lib.hid (fk _ _ _ HG.out.2.1 KR2.out)
  have B3 := Lib.hid (fb _ w HG.out.2.2 B2.out)
  have KO3 := Lib.hid (show Blk W3 W0.heap.size 32 #[Value.int .i8 x.kd, Value.int .i64 x.b.pid, Value.int .i64 x.b.ep, Value.int .i64 0, Value.bool false, Value.slice none 0 0, Value.bool false, Value.int .i64 x.nx, Value.int .i64 0, Value.int .i64 0, Value.int .i64 0, Value.int .i64 0, Value.string ⟨#[]⟩, Value.string ⟨#[]⟩, Value.int .i64 0, Value.int .i64 0, Value.int .i64 0, Value.slice none 0 0] from kO)
  clear st kO fb fk
  simp only [List.length_cons, List.length_nil, Nat.reduceAdd, Nat.zero_add] at st3
  go_upto_region 23 with (fail)
  clear st3 x7
  have LO := cells_blk KO3.out rfl
  obtain ⟨W9, st9, kw, fb, _⟩ := store_blk2 (cs := #[Value.int .i8 x.kd, Value.int .i64 x.b.pid, Value.int .i64 x.b.ep, Value.int .i64 0, Value.bool false, Value.slice none 0 0, Value.bool false, Value.int .i64 x.nx, Value.int .i64 0, Value.int .i64 0, Value.int .i64 0, Value.int .i64 0, Value.string ⟨#[]⟩, Value.string ⟨#[]⟩, Value.int .i64 0, Value.int .i64 0, Value.int .i64 0, Value.slice none 0 0]) KR3.out rfl rfl (by simp [Value.oneCell'])
  have BW := Lib.hid (fb _ w (Nat.le_succ _) B3.out)
  have KW := Lib.hid kw
  clear kw fb
  go_wp2_with fail
  have kq : Blk W9 (w.heap.size + 1) 32 #[.int .i8 (bareEn x).kd, .int .i64 (bareEn x).b.pid, .int .i64 (bareEn x).b.ep, .int .i64 (bareEn x).b.seq, .bool (bareEn x).b.txn, .slice none (bareEn x).b.rs.length 0, .bool (bareEn x).yes, .int .i64 (bareEn x).nx, .int .i64 (bareEn x).off, .int .i64 (bareEn x).row.1, .int .i64 (bareEn x).row.2.1, .int .i64 (bareEn x).row.2.2.1, .string (bareEn x).row.2.2.2.1, .string (bareEn x).row.2.2.2.2, .int .i64 (bareEn x).prod.pid, .int .i64 (bareEn x).prod.ep, .int .i64 (bareEn x).prod.nx, .slice none (bareEn x).prod.seen.length 0] := by rw [HQ.out]; exact KW.out
  refine bodyPost_ret (bare_ret (bareEn x) none none 0 0 _ (w.heap.size + 1) _ rfl kq) rfl ?_
  refine ⟨none, none, 0, 0, rfl, ?_, BW.out⟩
  rw [HQ.out]
  exact ⟨Reads.none_, Reads.none_, Nat.zero_le _, Nat.zero_le _⟩
set_option maxRecDepth 100000 in
set_option maxHeartbeats 4000000 in
theorem bare_5 (x : En) (hk : x.kd = 5) (A1 D1 : Option Addr) (c1 e1 : Nat) (w : World) (hr : EnR w x A1 D1) :
    Calls Tryz.prog 39 #[(.agg #[.int .i8 x.kd, .int .i64 x.b.pid, .int .i64 x.b.ep, .int .i64 x.b.seq, .bool x.b.txn, .slice A1 x.b.rs.length c1, .bool x.yes, .int .i64 x.nx, .int .i64 x.off, .int .i64 x.row.1, .int .i64 x.row.2.1, .int .i64 x.row.2.2.1, .string x.row.2.2.2.1, .string x.row.2.2.2.2, .int .i64 x.prod.pid, .int .i64 x.prod.ep, .int .i64 x.prod.nx, .slice D1 x.prod.seen.length e1])] w (BarePost x w) := by
  have HR := Lib.hid hr
  have HQ := Lib.hid (show bareEn x = { baseEn x.kd with row := (0, x.row.2.1, x.row.2.2.1, x.row.2.2.2.1, x.row.2.2.2.2) } by unfold bareEn; rw [hk]; rfl)
  have cc0 : (x.kd == 0) = false := by rw [hk]; rfl
  have cc1 : (x.kd == 1) = false := by rw [hk]; rfl
  have cc2 : (x.kd == 2) = false := by rw [hk]; rfl
  have cc3 : (x.kd == 3) = false := by rw [hk]; rfl
  have cc4 : (x.kd == 4) = false := by rw [hk]; rfl
  have cc5 : (x.kd == 5) = true := by rw [hk]; rfl
  have cc6 : (x.kd == 6) = false := by rw [hk]; rfl
  obtain ⟨W0, hW0⟩ : ∃ W0, W0 = (w.alloc (.cells #[.int .i8 x.kd, .int .i64 x.b.pid, .int .i64 x.b.ep, .int .i64 x.b.seq, .bool x.b.txn, .slice A1 x.b.rs.length c1, .bool x.yes, .int .i64 x.nx, .int .i64 x.off, .int .i64 x.row.1, .int .i64 x.row.2.1, .int .i64 x.row.2.2.1, .string x.row.2.2.2.1, .string x.row.2.2.2.2, .int .i64 x.prod.pid, .int .i64 x.prod.ep, .int .i64 x.prod.nx, .slice D1 x.prod.seen.length e1] 32)).alloc (.cells #[.int .i8 0, .int .i64 0, .int .i64 0, .int .i64 0, .bool false, .slice none 0 0, .bool false, .int .i64 0, .int .i64 0, .int .i64 0, .int .i64 0, .int .i64 0, .string ⟨#[]⟩, .string ⟨#[]⟩, .int .i64 0, .int .i64 0, .int .i64 0, .slice none 0 0] 32) := ⟨_, rfl⟩
  have KX0 : Blk W0 w.heap.size 32 #[.int .i8 x.kd, .int .i64 x.b.pid, .int .i64 x.b.ep, .int .i64 x.b.seq, .bool x.b.txn, .slice A1 x.b.rs.length c1, .bool x.yes, .int .i64 x.nx, .int .i64 x.off, .int .i64 x.row.1, .int .i64 x.row.2.1, .int .i64 x.row.2.2.1, .string x.row.2.2.2.1, .string x.row.2.2.2.2, .int .i64 x.prod.pid, .int .i64 x.prod.ep, .int .i64 x.prod.nx, .slice D1 x.prod.seen.length e1] := by rw [hW0]; exact (Blk.new _ _ _).alloc _
  have KR0 : Blk W0 (w.heap.size + 1) 32 ezero := by rw [hW0]; exact blk_new _ _ _ (by simp)
  have b0 : Below w.heap.size w W0 := by rw [hW0]; exact bal (bal (Below.refl _ _) _) _
  have hs0 : W0.heap.size = w.heap.size + 2 := by rw [hW0]; simp
  obtain ⟨W1, st1, kO, bb⟩ := fresh_en W0 #[Value.int .i8 x.kd, Value.int .i64 0, Value.int .i64 0, Value.int .i64 0, Value.bool false, Value.slice none 0 0, Value.bool false, Value.int .i64 0, Value.int .i64 0, Value.int .i64 0, Value.int .i64 0, Value.int .i64 0, Value.string ⟨#[]⟩, Value.string ⟨#[]⟩, Value.int .i64 0, Value.int .i64 0, Value.int .i64 0, Value.slice none 0 0] rfl (by simp [Value.oneCell'])
  have KX := KX0.below bb KX0.lt
  have KR := KR0.below bb KR0.lt
  have b1 := btrans b0 (bb.mono (by omega))
  have HW0 := Lib.hid hW0
  have x0 := KX0.cell 0
  have ST1 := Lib.hid st1
  have KX1 := Lib.hid KX
  have KR1 := Lib.hid KR
  have KO1 := Lib.hid kO
  have B1 := Lib.hid b1
  have HS0 := Lib.hid hs0
  have g1 : w.heap.size ≠ W0.heap.size := by omega
  have g2 : w.heap.size + 1 ≠ W0.heap.size := by omega
  have g3 : w.heap.size ≤ W0.heap.size := by omega
  have HG := Lib.hid (And.intro g1 (And.intro g2 g3))
  clear hW0 KX0 KR0 b0 hs0 st1 kO bb KX KR b1 g1 g2 g3 hr hk
  go_enter Tryz.func39, Tryz.ntmps39
  go_upto_region 1 with (fail)
  rw [← HW0.out]
  have st1 := ST1.out
  go_upto_region 2 with (fail)
  clear st1 x0
  have x0 := KX1.out.cell 0
  have LB := cells_off KX1.out 9 5 rfl rfl
  obtain ⟨W2, st, kO, _, fb, fk⟩ := store_off ([Value.int .i8 x.kd, Value.int .i64 0, Value.int .i64 0, Value.int .i64 0, Value.bool false, Value.slice none 0 0, Value.bool false, Value.int .i64 0, Value.int .i64 0] : List Value) ([Value.int .i64 0, Value.int .i64 0, Value.int .i64 0, Value.string ⟨#[]⟩, Value.string ⟨#[]⟩] : List Value) ([Value.int .i64 0, Value.int .i64 0, Value.int .i64 0, Value.slice none 0 0] : List Value) 27 (#[Value.int .i64 x.row.1, Value.int .i64 x.row.2.1, Value.int .i64 x.row.2.2.1, Value.string x.row.2.2.2.1, Value.string x.row.2.2.2.2] : Array Value) (show Blk W1 W0.heap.size 32 (([Value.int .i8 x.kd, Value.int .i64 0, Value.int .i64 0, Value.int .i64 0, Value.bool false, Value.slice none 0 0, Value.bool false, Value.int .i64 0, Value.int .i64 0] : List Value) ++ ([Value.int .i64 0, Value.int .i64 0, Value.int .i64 0, Value.string ⟨#[]⟩, Value.string ⟨#[]⟩] ++ [Value.int .i64 0, Value.int .i64 0, Value.int .i64 0, Value.slice none 0 0])).toArray from KO1.out) rfl (by kernel_rfl) (by simp [Value.oneCell'])
  have st2 : _ := st
  have KX2 := Lib.hid (fk _ _ _ HG.out.1 KX1.out)
  have KR2 := Lib.hid (fk _ _ _ HG.out.2.1 KR1.out)
  have B2 := Lib.hid (fb _ w HG.out.2.2 B1.out)
  have KO2 := Lib.hid (show Blk W2 W0.heap.size 32 #[Value.int .i8 x.kd, Value.int .i64 0, Value.int .i64 0, Value.int .i64 0, Value.bool false, Value.slice none 0 0, Value.bool false, Value.int .i64 0, Value.int .i64 0, Value.int .i64 x.row.1, Value.int .i64 x.row.2.1, Value.int .i64 x.row.2.2.1, Value.string x.row.2.2.2.1, Value.string x.row.2.2.2.2, Value.int .i64 0, Value.int .i64 0, Value.int .i64 0, Value.slice none 0 0] from kO)
  clear st kO fb fk
  simp only [List.length_cons, List.length_nil, Nat.reduceAdd, Nat.zero_add] at st2
  go_upto_region 20 with (fail)
  clear st2 LB 
  obtain ⟨W3, st, kO, _, fb, fk⟩ := store_cell ([Value.int .i8 x.kd, Value.int .i64 0, Value.int .i64 0, Value.int .i64 0, Value.bool false, Value.slice none 0 0, Value.bool false, Value.int .i64 0, Value.int .i64 0] : List Value) (Value.int .i64 x.row.1) ([Value.int .i64 x.row.2.1, Value.int .i64 x.row.2.2.1, Value.string x.row.2.2.2.1, Value.string x.row.2.2.2.2, Value.int .i64 0, Value.int .i64 0, Value.int .i64 0, Value.slice none 0 0] : List Value) 3 (Value.int .i64 0) (fun W u h1 h2 => store_int7 (0) h1 h2) (show Blk W2 W0.heap.size 32 (([Value.int .i8 x.kd, Value.int .i64 0, Value.int .i64 0, Value.int .i64 0, Value.bool false, Value.slice none 0 0, Value.bool false, Value.int .i64 0, Value.int .i64 0] : List Value) ++ ((Value.int .i64 x.row.1) :: [Value.int .i64 x.row.2.1, Value.int .i64 x.row.2.2.1, Value.string x.row.2.2.2.1, Value.string x.row.2.2.2.2, Value.int .i64 0, Value.int .i64 0, Value.int .i64 0, Value.slice none 0 0])).toArray from KO2.out)
  have st3 : _ := st
  have KX3 := Lib.hid (fk _ _ _ HG.out.1 KX2.out)
  have KR3 := Lib.hid (fk _ _ _ HG.out.2.1 KR2.out)
  have B3 := Lib.hid (fb _ w HG.out.2.2 B2.out)
  have KO3 := Lib.hid (show Blk W3 W0.heap.size 32 #[Value.int .i8 x.kd, Value.int .i64 0, Value.int .i64 0, Value.int .i64 0, Value.bool false, Value.slice none 0 0, Value.bool false, Value.int .i64 0, Value.int .i64 0, Value.int .i64 0, Value.int .i64 x.row.2.1, Value.int .i64 x.row.2.2.1, Value.string x.row.2.2.2.1, Value.string x.row.2.2.2.2, Value.int .i64 0, Value.int .i64 0, Value.int .i64 0, Value.slice none 0 0] from kO)
  clear st kO fb fk
  simp only [List.length_cons, List.length_nil, Nat.reduceAdd, Nat.zero_add] at st3
  go_upto_region 23 with (fail)
  clear st3 
  have LO := cells_blk KO3.out rfl
  obtain ⟨W9, st9, kw, fb, _⟩ := store_blk2 (cs := #[Value.int .i8 x.kd, Value.int .i64 0, Value.int .i64 0, Value.int .i64 0, Value.bool false, Value.slice none 0 0, Value.bool false, Value.int .i64 0, Value.int .i64 0, Value.int .i64 0, Value.int .i64 x.row.2.1, Value.int .i64 x.row.2.2.1, Value.string x.row.2.2.2.1, Value.string x.row.2.2.2.2, Value.int .i64 0, Value.int .i64 0, Value.int .i64 0, Value.slice none 0 0]) KR3.out rfl rfl (by simp [Value.oneCell'])
  have BW := Lib.hid (fb _ w (Nat.le_succ _) B3.out)
  have KW := Lib.hid kw
  clear kw fb
  go_wp2_with fail
  have kq : Blk W9 (w.heap.size + 1) 32 #[.int .i8 (bareEn x).kd, .int .i64 (bareEn x).b.pid, .int .i64 (bareEn x).b.ep, .int .i64 (bareEn x).b.seq, .bool (bareEn x).b.txn, .slice none (bareEn x).b.rs.length 0, .bool (bareEn x).yes, .int .i64 (bareEn x).nx, .int .i64 (bareEn x).off, .int .i64 (bareEn x).row.1, .int .i64 (bareEn x).row.2.1, .int .i64 (bareEn x).row.2.2.1, .string (bareEn x).row.2.2.2.1, .string (bareEn x).row.2.2.2.2, .int .i64 (bareEn x).prod.pid, .int .i64 (bareEn x).prod.ep, .int .i64 (bareEn x).prod.nx, .slice none (bareEn x).prod.seen.length 0] := by rw [HQ.out]; exact KW.out
  refine bodyPost_ret (bare_ret (bareEn x) none none 0 0 _ (w.heap.size + 1) _ rfl kq) rfl ?_
  refine ⟨none, none, 0, 0, rfl, ?_, BW.out⟩
  rw [HQ.out]
  exact ⟨Reads.none_, Reads.none_, Nat.zero_le _, Nat.zero_le _⟩
set_option maxRecDepth 100000 in
set_option maxHeartbeats 4000000 in
theorem bare_6 (x : En) (hk : x.kd = 6) (A1 D1 : Option Addr) (c1 e1 : Nat) (w : World) (hr : EnR w x A1 D1) :
    Calls Tryz.prog 39 #[(.agg #[.int .i8 x.kd, .int .i64 x.b.pid, .int .i64 x.b.ep, .int .i64 x.b.seq, .bool x.b.txn, .slice A1 x.b.rs.length c1, .bool x.yes, .int .i64 x.nx, .int .i64 x.off, .int .i64 x.row.1, .int .i64 x.row.2.1, .int .i64 x.row.2.2.1, .string x.row.2.2.2.1, .string x.row.2.2.2.2, .int .i64 x.prod.pid, .int .i64 x.prod.ep, .int .i64 x.prod.nx, .slice D1 x.prod.seen.length e1])] w (BarePost x w) := by
  have HR := Lib.hid hr
  have HQ := Lib.hid (show bareEn x = { baseEn x.kd with prod := x.prod } by unfold bareEn; rw [hk]; rfl)
  have cc0 : (x.kd == 0) = false := by rw [hk]; rfl
  have cc1 : (x.kd == 1) = false := by rw [hk]; rfl
  have cc2 : (x.kd == 2) = false := by rw [hk]; rfl
  have cc3 : (x.kd == 3) = false := by rw [hk]; rfl
  have cc4 : (x.kd == 4) = false := by rw [hk]; rfl
  have cc5 : (x.kd == 5) = false := by rw [hk]; rfl
  have cc6 : (x.kd == 6) = true := by rw [hk]; rfl
  obtain ⟨W0, hW0⟩ : ∃ W0, W0 = (w.alloc (.cells #[.int .i8 x.kd, .int .i64 x.b.pid, .int .i64 x.b.ep, .int .i64 x.b.seq, .bool x.b.txn, .slice A1 x.b.rs.length c1, .bool x.yes, .int .i64 x.nx, .int .i64 x.off, .int .i64 x.row.1, .int .i64 x.row.2.1, .int .i64 x.row.2.2.1, .string x.row.2.2.2.1, .string x.row.2.2.2.2, .int .i64 x.prod.pid, .int .i64 x.prod.ep, .int .i64 x.prod.nx, .slice D1 x.prod.seen.length e1] 32)).alloc (.cells #[.int .i8 0, .int .i64 0, .int .i64 0, .int .i64 0, .bool false, .slice none 0 0, .bool false, .int .i64 0, .int .i64 0, .int .i64 0, .int .i64 0, .int .i64 0, .string ⟨#[]⟩, .string ⟨#[]⟩, .int .i64 0, .int .i64 0, .int .i64 0, .slice none 0 0] 32) := ⟨_, rfl⟩
  have KX0 : Blk W0 w.heap.size 32 #[.int .i8 x.kd, .int .i64 x.b.pid, .int .i64 x.b.ep, .int .i64 x.b.seq, .bool x.b.txn, .slice A1 x.b.rs.length c1, .bool x.yes, .int .i64 x.nx, .int .i64 x.off, .int .i64 x.row.1, .int .i64 x.row.2.1, .int .i64 x.row.2.2.1, .string x.row.2.2.2.1, .string x.row.2.2.2.2, .int .i64 x.prod.pid, .int .i64 x.prod.ep, .int .i64 x.prod.nx, .slice D1 x.prod.seen.length e1] := by rw [hW0]; exact (Blk.new _ _ _).alloc _
  have KR0 : Blk W0 (w.heap.size + 1) 32 ezero := by rw [hW0]; exact blk_new _ _ _ (by simp)
  have b0 : Below w.heap.size w W0 := by rw [hW0]; exact bal (bal (Below.refl _ _) _) _
  have hs0 : W0.heap.size = w.heap.size + 2 := by rw [hW0]; simp
  obtain ⟨W1, st1, kO, bb⟩ := fresh_en W0 #[Value.int .i8 x.kd, Value.int .i64 0, Value.int .i64 0, Value.int .i64 0, Value.bool false, Value.slice none 0 0, Value.bool false, Value.int .i64 0, Value.int .i64 0, Value.int .i64 0, Value.int .i64 0, Value.int .i64 0, Value.string ⟨#[]⟩, Value.string ⟨#[]⟩, Value.int .i64 0, Value.int .i64 0, Value.int .i64 0, Value.slice none 0 0] rfl (by simp [Value.oneCell'])
  have KX := KX0.below bb KX0.lt
  have KR := KR0.below bb KR0.lt
  have b1 := btrans b0 (bb.mono (by omega))
  have HW0 := Lib.hid hW0
  have x0 := KX0.cell 0
  have ST1 := Lib.hid st1
  have KX1 := Lib.hid KX
  have KR1 := Lib.hid KR
  have KO1 := Lib.hid kO
  have B1 := Lib.hid b1
  have HS0 := Lib.hid hs0
  have g1 : w.heap.size ≠ W0.heap.size := by omega
  have g2 : w.heap.size + 1 ≠ W0.heap.size := by omega
  have g3 : w.heap.size ≤ W0.heap.size := by omega
  have HG := Lib.hid (And.intro g1 (And.intro g2 g3))
  clear hW0 KX0 KR0 b0 hs0 st1 kO bb KX KR b1 g1 g2 g3 hr hk
  go_enter Tryz.func39, Tryz.ntmps39
  go_upto_region 1 with (fail)
  rw [← HW0.out]
  have st1 := ST1.out
  go_upto_region 2 with (fail)
  clear st1 x0
  have x0 := KX1.out.cell 0
  have LB := cells_off KX1.out 14 4 rfl rfl
  obtain ⟨W2, st, kO, _, fb, fk⟩ := store_off ([Value.int .i8 x.kd, Value.int .i64 0, Value.int .i64 0, Value.int .i64 0, Value.bool false, Value.slice none 0 0, Value.bool false, Value.int .i64 0, Value.int .i64 0, Value.int .i64 0, Value.int .i64 0, Value.int .i64 0, Value.string ⟨#[]⟩, Value.string ⟨#[]⟩] : List Value) ([Value.int .i64 0, Value.int .i64 0, Value.int .i64 0, Value.slice none 0 0] : List Value) ([] : List Value) 30 (#[Value.int .i64 x.prod.pid, Value.int .i64 x.prod.ep, Value.int .i64 x.prod.nx, Value.slice D1 x.prod.seen.length e1] : Array Value) (show Blk W1 W0.heap.size 32 (([Value.int .i8 x.kd, Value.int .i64 0, Value.int .i64 0, Value.int .i64 0, Value.bool false, Value.slice none 0 0, Value.bool false, Value.int .i64 0, Value.int .i64 0, Value.int .i64 0, Value.int .i64 0, Value.int .i64 0, Value.string ⟨#[]⟩, Value.string ⟨#[]⟩] : List Value) ++ ([Value.int .i64 0, Value.int .i64 0, Value.int .i64 0, Value.slice none 0 0] ++ [])).toArray from KO1.out) rfl (by kernel_rfl) (by simp [Value.oneCell'])
  have st2 : _ := st
  have KX2 := Lib.hid (fk _ _ _ HG.out.1 KX1.out)
  have KR2 := Lib.hid (fk _ _ _ HG.out.2.1 KR1.out)
  have B2 := Lib.hid (fb _ w HG.out.2.2 B1.out)
  have KO2 := Lib.hid (show Blk W2 W0.heap.size 32 #[Value.int .i8 x.kd, Value.int .i64 0, Value.int .i64 0, Value.int .i64 0, Value.bool false, Value.slice none 0 0, Value.bool false, Value.int .i64 0, Value.int .i64 0, Value.int .i64 0, Value.int .i64 0, Value.int .i64 0, Value.string ⟨#[]⟩, Value.string ⟨#[]⟩, Value.int .i64 x.prod.pid, Value.int .i64 x.prod.ep, Value.int .i64 x.prod.nx, Value.slice D1 x.prod.seen.length e1] from kO)
  clear st kO fb fk
  simp only [List.length_cons, List.length_nil, Nat.reduceAdd, Nat.zero_add] at st2
  go_upto_region 23 with (fail)
  clear st2 LB 
  have LO := cells_blk KO2.out rfl
  obtain ⟨W9, st9, kw, fb, _⟩ := store_blk2 (cs := #[Value.int .i8 x.kd, Value.int .i64 0, Value.int .i64 0, Value.int .i64 0, Value.bool false, Value.slice none 0 0, Value.bool false, Value.int .i64 0, Value.int .i64 0, Value.int .i64 0, Value.int .i64 0, Value.int .i64 0, Value.string ⟨#[]⟩, Value.string ⟨#[]⟩, Value.int .i64 x.prod.pid, Value.int .i64 x.prod.ep, Value.int .i64 x.prod.nx, Value.slice D1 x.prod.seen.length e1]) KR2.out rfl rfl (by simp [Value.oneCell'])
  have BW := Lib.hid (fb _ w (Nat.le_succ _) B2.out)
  have KW := Lib.hid kw
  clear kw fb
  go_wp2_with fail
  have kq : Blk W9 (w.heap.size + 1) 32 #[.int .i8 (bareEn x).kd, .int .i64 (bareEn x).b.pid, .int .i64 (bareEn x).b.ep, .int .i64 (bareEn x).b.seq, .bool (bareEn x).b.txn, .slice none (bareEn x).b.rs.length 0, .bool (bareEn x).yes, .int .i64 (bareEn x).nx, .int .i64 (bareEn x).off, .int .i64 (bareEn x).row.1, .int .i64 (bareEn x).row.2.1, .int .i64 (bareEn x).row.2.2.1, .string (bareEn x).row.2.2.2.1, .string (bareEn x).row.2.2.2.2, .int .i64 (bareEn x).prod.pid, .int .i64 (bareEn x).prod.ep, .int .i64 (bareEn x).prod.nx, .slice D1 (bareEn x).prod.seen.length e1] := by rw [HQ.out]; exact KW.out
  refine bodyPost_ret (bare_ret (bareEn x) none D1 0 e1 _ (w.heap.size + 1) _ rfl kq) rfl ?_
  refine ⟨none, D1, 0, e1, rfl, ?_, BW.out⟩
  rw [HQ.out]
  exact ⟨Reads.none_, (HR.out.up BW.out).2.1, Nat.zero_le _, HR.out.2.2.2⟩
set_option maxRecDepth 100000 in
set_option maxHeartbeats 4000000 in
theorem bare_9 (x : En) (h0 : ¬ x.kd = 0) (h1 : ¬ x.kd = 1) (h2 : ¬ x.kd = 2) (h3 : ¬ x.kd = 3) (h4 : ¬ x.kd = 4) (h5 : ¬ x.kd = 5) (h6 : ¬ x.kd = 6) (A1 D1 : Option Addr) (c1 e1 : Nat) (w : World) (hr : EnR w x A1 D1) :
    Calls Tryz.prog 39 #[(.agg #[.int .i8 x.kd, .int .i64 x.b.pid, .int .i64 x.b.ep, .int .i64 x.b.seq, .bool x.b.txn, .slice A1 x.b.rs.length c1, .bool x.yes, .int .i64 x.nx, .int .i64 x.off, .int .i64 x.row.1, .int .i64 x.row.2.1, .int .i64 x.row.2.2.1, .string x.row.2.2.2.1, .string x.row.2.2.2.2, .int .i64 x.prod.pid, .int .i64 x.prod.ep, .int .i64 x.prod.nx, .slice D1 x.prod.seen.length e1])] w (BarePost x w) := by
  have HR := Lib.hid hr
  have HQ := Lib.hid (show bareEn x = baseEn x.kd by unfold bareEn; rw [if_neg h0, if_neg h1, if_neg h2, if_neg h3, if_neg h4, if_neg h5, if_neg h6])
  have cc0 : (x.kd == 0) = false := by simpa using h0
  have cc1 : (x.kd == 1) = false := by simpa using h1
  have cc2 : (x.kd == 2) = false := by simpa using h2
  have cc3 : (x.kd == 3) = false := by simpa using h3
  have cc4 : (x.kd == 4) = false := by simpa using h4
  have cc5 : (x.kd == 5) = false := by simpa using h5
  have cc6 : (x.kd == 6) = false := by simpa using h6
  obtain ⟨W0, hW0⟩ : ∃ W0, W0 = (w.alloc (.cells #[.int .i8 x.kd, .int .i64 x.b.pid, .int .i64 x.b.ep, .int .i64 x.b.seq, .bool x.b.txn, .slice A1 x.b.rs.length c1, .bool x.yes, .int .i64 x.nx, .int .i64 x.off, .int .i64 x.row.1, .int .i64 x.row.2.1, .int .i64 x.row.2.2.1, .string x.row.2.2.2.1, .string x.row.2.2.2.2, .int .i64 x.prod.pid, .int .i64 x.prod.ep, .int .i64 x.prod.nx, .slice D1 x.prod.seen.length e1] 32)).alloc (.cells #[.int .i8 0, .int .i64 0, .int .i64 0, .int .i64 0, .bool false, .slice none 0 0, .bool false, .int .i64 0, .int .i64 0, .int .i64 0, .int .i64 0, .int .i64 0, .string ⟨#[]⟩, .string ⟨#[]⟩, .int .i64 0, .int .i64 0, .int .i64 0, .slice none 0 0] 32) := ⟨_, rfl⟩
  have KX0 : Blk W0 w.heap.size 32 #[.int .i8 x.kd, .int .i64 x.b.pid, .int .i64 x.b.ep, .int .i64 x.b.seq, .bool x.b.txn, .slice A1 x.b.rs.length c1, .bool x.yes, .int .i64 x.nx, .int .i64 x.off, .int .i64 x.row.1, .int .i64 x.row.2.1, .int .i64 x.row.2.2.1, .string x.row.2.2.2.1, .string x.row.2.2.2.2, .int .i64 x.prod.pid, .int .i64 x.prod.ep, .int .i64 x.prod.nx, .slice D1 x.prod.seen.length e1] := by rw [hW0]; exact (Blk.new _ _ _).alloc _
  have KR0 : Blk W0 (w.heap.size + 1) 32 ezero := by rw [hW0]; exact blk_new _ _ _ (by simp)
  have b0 : Below w.heap.size w W0 := by rw [hW0]; exact bal (bal (Below.refl _ _) _) _
  have hs0 : W0.heap.size = w.heap.size + 2 := by rw [hW0]; simp
  obtain ⟨W1, st1, kO, bb⟩ := fresh_en W0 #[Value.int .i8 x.kd, Value.int .i64 0, Value.int .i64 0, Value.int .i64 0, Value.bool false, Value.slice none 0 0, Value.bool false, Value.int .i64 0, Value.int .i64 0, Value.int .i64 0, Value.int .i64 0, Value.int .i64 0, Value.string ⟨#[]⟩, Value.string ⟨#[]⟩, Value.int .i64 0, Value.int .i64 0, Value.int .i64 0, Value.slice none 0 0] rfl (by simp [Value.oneCell'])
  have KX := KX0.below bb KX0.lt
  have KR := KR0.below bb KR0.lt
  have b1 := btrans b0 (bb.mono (by omega))
  have HW0 := Lib.hid hW0
  have x0 := KX0.cell 0
  have ST1 := Lib.hid st1
  have KX1 := Lib.hid KX
  have KR1 := Lib.hid KR
  have KO1 := Lib.hid kO
  have B1 := Lib.hid b1
  have HS0 := Lib.hid hs0
  have g1 : w.heap.size ≠ W0.heap.size := by omega
  have g2 : w.heap.size + 1 ≠ W0.heap.size := by omega
  have g3 : w.heap.size ≤ W0.heap.size := by omega
  have HG := Lib.hid (And.intro g1 (And.intro g2 g3))
  clear hW0 KX0 KR0 b0 hs0 st1 kO bb KX KR b1 g1 g2 g3 hr h0 h1 h2 h3 h4 h5 h6
  go_enter Tryz.func39, Tryz.ntmps39
  go_upto_region 1 with (fail)
  rw [← HW0.out]
  have st1 := ST1.out
  go_upto_region 2 with (fail)
  clear st1 x0
  have x0 := KX1.out.cell 0
  go_upto_region 23 with (fail)
  have LO := cells_blk KO1.out rfl
  obtain ⟨W9, st9, kw, fb, _⟩ := store_blk2 (cs := #[Value.int .i8 x.kd, Value.int .i64 0, Value.int .i64 0, Value.int .i64 0, Value.bool false, Value.slice none 0 0, Value.bool false, Value.int .i64 0, Value.int .i64 0, Value.int .i64 0, Value.int .i64 0, Value.int .i64 0, Value.string ⟨#[]⟩, Value.string ⟨#[]⟩, Value.int .i64 0, Value.int .i64 0, Value.int .i64 0, Value.slice none 0 0]) KR1.out rfl rfl (by simp [Value.oneCell'])
  have BW := Lib.hid (fb _ w (Nat.le_succ _) B1.out)
  have KW := Lib.hid kw
  clear kw fb
  go_wp2_with fail
  have kq : Blk W9 (w.heap.size + 1) 32 #[.int .i8 (bareEn x).kd, .int .i64 (bareEn x).b.pid, .int .i64 (bareEn x).b.ep, .int .i64 (bareEn x).b.seq, .bool (bareEn x).b.txn, .slice none (bareEn x).b.rs.length 0, .bool (bareEn x).yes, .int .i64 (bareEn x).nx, .int .i64 (bareEn x).off, .int .i64 (bareEn x).row.1, .int .i64 (bareEn x).row.2.1, .int .i64 (bareEn x).row.2.2.1, .string (bareEn x).row.2.2.2.1, .string (bareEn x).row.2.2.2.2, .int .i64 (bareEn x).prod.pid, .int .i64 (bareEn x).prod.ep, .int .i64 (bareEn x).prod.nx, .slice none (bareEn x).prod.seen.length 0] := by rw [HQ.out]; exact KW.out
  refine bodyPost_ret (bare_ret (bareEn x) none none 0 0 _ (w.heap.size + 1) _ rfl kq) rfl ?_
  refine ⟨none, none, 0, 0, rfl, ?_, BW.out⟩
  rw [HQ.out]
  exact ⟨Reads.none_, Reads.none_, Nat.zero_le _, Nat.zero_le _⟩
end
theorem bare_any (x : En) (A1 D1 : Option Addr) (c1 e1 : Nat) (w : World) (hr : EnR w x A1 D1) :
    Calls Tryz.prog 39 #[(.agg #[.int .i8 x.kd, .int .i64 x.b.pid, .int .i64 x.b.ep, .int .i64 x.b.seq, .bool x.b.txn, .slice A1 x.b.rs.length c1, .bool x.yes, .int .i64 x.nx, .int .i64 x.off, .int .i64 x.row.1, .int .i64 x.row.2.1, .int .i64 x.row.2.2.1, .string x.row.2.2.2.1, .string x.row.2.2.2.2, .int .i64 x.prod.pid, .int .i64 x.prod.ep, .int .i64 x.prod.nx, .slice D1 x.prod.seen.length e1])] w (BarePost x w) := by
  by_cases h0 : x.kd = 0
  · exact bare_0 x h0 A1 D1 c1 e1 w hr
  by_cases h1 : x.kd = 1
  · exact bare_1 x h1 A1 D1 c1 e1 w hr
  by_cases h2 : x.kd = 2
  · exact bare_2 x h2 A1 D1 c1 e1 w hr
  by_cases h3 : x.kd = 3
  · have hyy : x.yes = false ∨ x.yes = true := by cases x.yes <;> simp
    rcases hyy with hy | hy
    · exact bare_3f x h3 hy A1 D1 c1 e1 w hr
    · exact bare_3t x h3 hy A1 D1 c1 e1 w hr
  by_cases h4 : x.kd = 4
  · exact bare_4 x h4 A1 D1 c1 e1 w hr
  by_cases h5 : x.kd = 5
  · exact bare_5 x h5 A1 D1 c1 e1 w hr
  by_cases h6 : x.kd = 6
  · exact bare_6 x h6 A1 D1 c1 e1 w hr
  exact bare_9 x h0 h1 h2 h3 h4 h5 h6 A1 D1 c1 e1 w hr
end Go.Proofs.YtckdecodpjfcnaaGreatDoor
namespace Go.Proofs.YtckdecodpjfcnaaGreatDoor
open Go.RowKit

theorem withinS_any (x : Int) (w : World) : Calls Tryz.prog 42 #[.int .i64 x, .int .i64 0, .int .i64 1048576] w fun e w' => e = .returned (.bool (seqB x)) ∧ w = w' := within_any x 0 1048576 w
section
attribute [-go_sem] loadCells storeVar
set_option maxRecDepth 100000 in
set_option maxHeartbeats 4000000 in
theorem rEnMay_0 (x : En) (hk : x.kd = 0) (A1 D1 : Option Addr) (c1 e1 : Nat) (w : World) (hr : EnR w x A1 D1) :
    Calls Tryz.prog 14 #[(.agg #[.int .i8 x.kd, .int .i64 x.b.pid, .int .i64 x.b.ep, .int .i64 x.b.seq, .bool x.b.txn, .slice A1 x.b.rs.length c1, .bool x.yes, .int .i64 x.nx, .int .i64 x.off, .int .i64 x.row.1, .int .i64 x.row.2.1, .int .i64 x.row.2.2.1, .string x.row.2.2.2.1, .string x.row.2.2.2.2, .int .i64 x.prod.pid, .int .i64 x.prod.ep, .int .i64 x.prod.nx, .slice D1 x.prod.seen.length e1])] w fun e w' => e = .returned (.bool (mayEn x)) ∧ Below w.heap.size w w' := by
  have HR := Lib.hid hr
  have HM := Lib.hid (show mayEn x = (sameEn x (bareEn x) && (mayBt x.b)) by rw [← mayR_eq x]; unfold okR; rw [hk]; rfl)
  have cc0 : (x.kd == 0) = true := by rw [hk]; rfl
  have cc1 : (x.kd == 1) = false := by rw [hk]; rfl
  have cc2 : (x.kd == 2) = false := by rw [hk]; rfl
  have cc3 : (x.kd == 3) = false := by rw [hk]; rfl
  have cc4 : (x.kd == 4) = false := by rw [hk]; rfl
  have cc5 : (x.kd == 5) = false := by rw [hk]; rfl
  have cc6 : (x.kd == 6) = false := by rw [hk]; rfl
  have K0 := Lib.hid (Blk.new w 32 #[.int .i8 x.kd, .int .i64 x.b.pid, .int .i64 x.b.ep, .int .i64 x.b.seq, .bool x.b.txn, .slice A1 x.b.rs.length c1, .bool x.yes, .int .i64 x.nx, .int .i64 x.off, .int .i64 x.row.1, .int .i64 x.row.2.1, .int .i64 x.row.2.2.1, .string x.row.2.2.2.1, .string x.row.2.2.2.2, .int .i64 x.prod.pid, .int .i64 x.prod.ep, .int .i64 x.prod.nx, .slice D1 x.prod.seen.length e1])
  have B0 := Lib.hid (bal (Below.refl w.heap.size w) (.cells #[.int .i8 x.kd, .int .i64 x.b.pid, .int .i64 x.b.ep, .int .i64 x.b.seq, .bool x.b.txn, .slice A1 x.b.rs.length c1, .bool x.yes, .int .i64 x.nx, .int .i64 x.off, .int .i64 x.row.1, .int .i64 x.row.2.1, .int .i64 x.row.2.2.1, .string x.row.2.2.2.1, .string x.row.2.2.2.2, .int .i64 x.prod.pid, .int .i64 x.prod.ep, .int .i64 x.prod.nx, .slice D1 x.prod.seen.length e1] 32))
  clear hr hk
  generalize hsm : sameEn x (bareEn x) = sm at HM
  have HSM := Lib.hid hsm
  clear hsm
  go_enter Tryz.func14, Tryz.ntmps14
  go_upto_region 1 with (fail)
  go_region_held3 (fun W => (loadCells ⟨w.heap.size, 0, none⟩ 18).run Tryz.prog W = .ok #[.int .i8 x.kd, .int .i64 x.b.pid, .int .i64 x.b.ep, .int .i64 x.b.seq, .bool x.b.txn, .slice A1 x.b.rs.length c1, .bool x.yes, .int .i64 x.nx, .int .i64 x.off, .int .i64 x.row.1, .int .i64 x.row.2.1, .int .i64 x.row.2.2.1, .string x.row.2.2.2.1, .string x.row.2.2.2.2, .int .i64 x.prod.pid, .int .i64 x.prod.ep, .int .i64 x.prod.nx, .slice D1 x.prod.seen.length e1] W)
    (first | exact cells_blk K0.out.drew rfl | exact yL | exact zL)
    (first
      | (go_at_call 39; refine (bare_any x A1 D1 c1 e1 _ (HR.out.up (B0.out.trans (Below.refl _ _).drew))).mono ?_; rintro e w4 ⟨A9, D9, c9, e9, rfl, r9, b4⟩; have k4 := K0.out.drew.below b4 K0.out.lt; have K4 := Lib.hid k4; have yL := cells_blk k4 rfl; have B4 := Lib.hid (btrans B0.out ((Below.refl _ _).drew.trans (b4.mono (Nat.le_refl _)))); have R9 := Lib.hid r9; clear k4 b4 r9)
      | (go_at_call 16; refine (rEnSame_any x (bareEn x) A1 D1 A9 D9 c1 e1 c9 e9 _ (HR.out.up B4.out) R9.out).mono ?_; rintro e w5 ⟨rfl, b5⟩; have k5 := K4.out.below b5 K4.out.lt; have K5 := Lib.hid k5; have zL := cells_blk k5 rfl; have B5 := Lib.hid (btrans B4.out b5); clear k5 b5))
  all_goals
    rw [HSM.out]
    cases sm
    case false =>
      go_wp2_with fail
      go_ret
      exact ⟨ret_bool (by rw [HM.out]; rfl), B5.out⟩
    clear zL
    have x0 := K5.out.cell 0
    have LB := cells_off K5.out 1 5 rfl rfl
    go_wp2_with fail
    refine (rRcMay_any x.b A1 c1 _ (HR.out.up B5.out).1).mono ?_
    rintro e w6 ⟨rfl, b6⟩
    have BZ := Lib.hid (btrans B5.out b6)
    go_wp2_with fail
    go_ret
    exact ⟨ret_bool (by rw [HM.out]; rfl), BZ.out⟩
set_option maxRecDepth 100000 in
set_option maxHeartbeats 4000000 in
theorem rEnMay_1 (x : En) (hk : x.kd = 1) (A1 D1 : Option Addr) (c1 e1 : Nat) (w : World) (hr : EnR w x A1 D1) :
    Calls Tryz.prog 14 #[(.agg #[.int .i8 x.kd, .int .i64 x.b.pid, .int .i64 x.b.ep, .int .i64 x.b.seq, .bool x.b.txn, .slice A1 x.b.rs.length c1, .bool x.yes, .int .i64 x.nx, .int .i64 x.off, .int .i64 x.row.1, .int .i64 x.row.2.1, .int .i64 x.row.2.2.1, .string x.row.2.2.2.1, .string x.row.2.2.2.2, .int .i64 x.prod.pid, .int .i64 x.prod.ep, .int .i64 x.prod.nx, .slice D1 x.prod.seen.length e1])] w fun e w' => e = .returned (.bool (mayEn x)) ∧ Below w.heap.size w w' := by
  have HR := Lib.hid hr
  have HM := Lib.hid (show mayEn x = (sameEn x (bareEn x) && (prodB x.b.pid x.b.ep)) by rw [← mayR_eq x]; unfold okR; rw [hk]; rfl)
  have cc0 : (x.kd == 0) = false := by rw [hk]; rfl
  have cc1 : (x.kd == 1) = true := by rw [hk]; rfl
  have cc2 : (x.kd == 2) = false := by rw [hk]; rfl
  have cc3 : (x.kd == 3) = false := by rw [hk]; rfl
  have cc4 : (x.kd == 4) = false := by rw [hk]; rfl
  have cc5 : (x.kd == 5) = false := by rw [hk]; rfl
  have cc6 : (x.kd == 6) = false := by rw [hk]; rfl
  have K0 := Lib.hid (Blk.new w 32 #[.int .i8 x.kd, .int .i64 x.b.pid, .int .i64 x.b.ep, .int .i64 x.b.seq, .bool x.b.txn, .slice A1 x.b.rs.length c1, .bool x.yes, .int .i64 x.nx, .int .i64 x.off, .int .i64 x.row.1, .int .i64 x.row.2.1, .int .i64 x.row.2.2.1, .string x.row.2.2.2.1, .string x.row.2.2.2.2, .int .i64 x.prod.pid, .int .i64 x.prod.ep, .int .i64 x.prod.nx, .slice D1 x.prod.seen.length e1])
  have B0 := Lib.hid (bal (Below.refl w.heap.size w) (.cells #[.int .i8 x.kd, .int .i64 x.b.pid, .int .i64 x.b.ep, .int .i64 x.b.seq, .bool x.b.txn, .slice A1 x.b.rs.length c1, .bool x.yes, .int .i64 x.nx, .int .i64 x.off, .int .i64 x.row.1, .int .i64 x.row.2.1, .int .i64 x.row.2.2.1, .string x.row.2.2.2.1, .string x.row.2.2.2.2, .int .i64 x.prod.pid, .int .i64 x.prod.ep, .int .i64 x.prod.nx, .slice D1 x.prod.seen.length e1] 32))
  clear hr hk
  generalize hsm : sameEn x (bareEn x) = sm at HM
  have HSM := Lib.hid hsm
  clear hsm
  go_enter Tryz.func14, Tryz.ntmps14
  go_upto_region 1 with (fail)
  go_region_held3 (fun W => (loadCells ⟨w.heap.size, 0, none⟩ 18).run Tryz.prog W = .ok #[.int .i8 x.kd, .int .i64 x.b.pid, .int .i64 x.b.ep, .int .i64 x.b.seq, .bool x.b.txn, .slice A1 x.b.rs.length c1, .bool x.yes, .int .i64 x.nx, .int .i64 x.off, .int .i64 x.row.1, .int .i64 x.row.2.1, .int .i64 x.row.2.2.1, .string x.row.2.2.2.1, .string x.row.2.2.2.2, .int .i64 x.prod.pid, .int .i64 x.prod.ep, .int .i64 x.prod.nx, .slice D1 x.prod.seen.length e1] W)
    (first | exact cells_blk K0.out.drew rfl | exact yL | exact zL)
    (first
      | (go_at_call 39; refine (bare_any x A1 D1 c1 e1 _ (HR.out.up (B0.out.trans (Below.refl _ _).drew))).mono ?_; rintro e w4 ⟨A9, D9, c9, e9, rfl, r9, b4⟩; have k4 := K0.out.drew.below b4 K0.out.lt; have K4 := Lib.hid k4; have yL := cells_blk k4 rfl; have B4 := Lib.hid (btrans B0.out ((Below.refl _ _).drew.trans (b4.mono (Nat.le_refl _)))); have R9 := Lib.hid r9; clear k4 b4 r9)
      | (go_at_call 16; refine (rEnSame_any x (bareEn x) A1 D1 A9 D9 c1 e1 c9 e9 _ (HR.out.up B4.out) R9.out).mono ?_; rintro e w5 ⟨rfl, b5⟩; have k5 := K4.out.below b5 K4.out.lt; have K5 := Lib.hid k5; have zL := cells_blk k5 rfl; have B5 := Lib.hid (btrans B4.out b5); clear k5 b5))
  all_goals
    rw [HSM.out]
    cases sm
    case false =>
      go_wp2_with fail
      go_ret
      exact ⟨ret_bool (by rw [HM.out]; rfl), B5.out⟩
    clear zL
    have x0 := K5.out.cell 0
    have x1 := K5.out.cell 1
    have x2 := K5.out.cell 2
    go_wp2_with fail
    refine (rproducer_any x.b.pid x.b.ep _).mono ?_
    rintro e w6 ⟨rfl, rfl⟩
    have BZ := B5
    go_wp2_with fail
    go_ret
    exact ⟨ret_bool (by rw [HM.out]; rfl), BZ.out⟩
set_option maxRecDepth 100000 in
set_option maxHeartbeats 4000000 in
theorem rEnMay_2 (x : En) (hk : x.kd = 2) (A1 D1 : Option Addr) (c1 e1 : Nat) (w : World) (hr : EnR w x A1 D1) :
    Calls Tryz.prog 14 #[(.agg #[.int .i8 x.kd, .int .i64 x.b.pid, .int .i64 x.b.ep, .int .i64 x.b.seq, .bool x.b.txn, .slice A1 x.b.rs.length c1, .bool x.yes, .int .i64 x.nx, .int .i64 x.off, .int .i64 x.row.1, .int .i64 x.row.2.1, .int .i64 x.row.2.2.1, .string x.row.2.2.2.1, .string x.row.2.2.2.2, .int .i64 x.prod.pid, .int .i64 x.prod.ep, .int .i64 x.prod.nx, .slice D1 x.prod.seen.length e1])] w fun e w' => e = .returned (.bool (mayEn x)) ∧ Below w.heap.size w w' := by
  have HR := Lib.hid hr
  have HM := Lib.hid (show mayEn x = (sameEn x (bareEn x) && (seqB x.off)) by rw [← mayR_eq x]; unfold okR; rw [hk]; rfl)
  have cc0 : (x.kd == 0) = false := by rw [hk]; rfl
  have cc1 : (x.kd == 1) = false := by rw [hk]; rfl
  have cc2 : (x.kd == 2) = true := by rw [hk]; rfl
  have cc3 : (x.kd == 3) = false := by rw [hk]; rfl
  have cc4 : (x.kd == 4) = false := by rw [hk]; rfl
  have cc5 : (x.kd == 5) = false := by rw [hk]; rfl
  have cc6 : (x.kd == 6) = false := by rw [hk]; rfl
  have K0 := Lib.hid (Blk.new w 32 #[.int .i8 x.kd, .int .i64 x.b.pid, .int .i64 x.b.ep, .int .i64 x.b.seq, .bool x.b.txn, .slice A1 x.b.rs.length c1, .bool x.yes, .int .i64 x.nx, .int .i64 x.off, .int .i64 x.row.1, .int .i64 x.row.2.1, .int .i64 x.row.2.2.1, .string x.row.2.2.2.1, .string x.row.2.2.2.2, .int .i64 x.prod.pid, .int .i64 x.prod.ep, .int .i64 x.prod.nx, .slice D1 x.prod.seen.length e1])
  have B0 := Lib.hid (bal (Below.refl w.heap.size w) (.cells #[.int .i8 x.kd, .int .i64 x.b.pid, .int .i64 x.b.ep, .int .i64 x.b.seq, .bool x.b.txn, .slice A1 x.b.rs.length c1, .bool x.yes, .int .i64 x.nx, .int .i64 x.off, .int .i64 x.row.1, .int .i64 x.row.2.1, .int .i64 x.row.2.2.1, .string x.row.2.2.2.1, .string x.row.2.2.2.2, .int .i64 x.prod.pid, .int .i64 x.prod.ep, .int .i64 x.prod.nx, .slice D1 x.prod.seen.length e1] 32))
  clear hr hk
  generalize hsm : sameEn x (bareEn x) = sm at HM
  have HSM := Lib.hid hsm
  clear hsm
  go_enter Tryz.func14, Tryz.ntmps14
  go_upto_region 1 with (fail)
  go_region_held3 (fun W => (loadCells ⟨w.heap.size, 0, none⟩ 18).run Tryz.prog W = .ok #[.int .i8 x.kd, .int .i64 x.b.pid, .int .i64 x.b.ep, .int .i64 x.b.seq, .bool x.b.txn, .slice A1 x.b.rs.length c1, .bool x.yes, .int .i64 x.nx, .int .i64 x.off, .int .i64 x.row.1, .int .i64 x.row.2.1, .int .i64 x.row.2.2.1, .string x.row.2.2.2.1, .string x.row.2.2.2.2, .int .i64 x.prod.pid, .int .i64 x.prod.ep, .int .i64 x.prod.nx, .slice D1 x.prod.seen.length e1] W)
    (first | exact cells_blk K0.out.drew rfl | exact yL | exact zL)
    (first
      | (go_at_call 39; refine (bare_any x A1 D1 c1 e1 _ (HR.out.up (B0.out.trans (Below.refl _ _).drew))).mono ?_; rintro e w4 ⟨A9, D9, c9, e9, rfl, r9, b4⟩; have k4 := K0.out.drew.below b4 K0.out.lt; have K4 := Lib.hid k4; have yL := cells_blk k4 rfl; have B4 := Lib.hid (btrans B0.out ((Below.refl _ _).drew.trans (b4.mono (Nat.le_refl _)))); have R9 := Lib.hid r9; clear k4 b4 r9)
      | (go_at_call 16; refine (rEnSame_any x (bareEn x) A1 D1 A9 D9 c1 e1 c9 e9 _ (HR.out.up B4.out) R9.out).mono ?_; rintro e w5 ⟨rfl, b5⟩; have k5 := K4.out.below b5 K4.out.lt; have K5 := Lib.hid k5; have zL := cells_blk k5 rfl; have B5 := Lib.hid (btrans B4.out b5); clear k5 b5))
  all_goals
    rw [HSM.out]
    cases sm
    case false =>
      go_wp2_with fail
      go_ret
      exact ⟨ret_bool (by rw [HM.out]; rfl), B5.out⟩
    clear zL
    have x0 := K5.out.cell 0
    have x8 := K5.out.cell 8
    go_wp2_with fail
    refine (withinS_any x.off _).mono ?_
    rintro e w6 ⟨rfl, rfl⟩
    have BZ := B5
    go_wp2_with fail
    go_ret
    exact ⟨ret_bool (by rw [HM.out]; rfl), BZ.out⟩
set_option maxRecDepth 100000 in
set_option maxHeartbeats 4000000 in
theorem rEnMay_5 (x : En) (hk : x.kd = 5) (A1 D1 : Option Addr) (c1 e1 : Nat) (w : World) (hr : EnR w x A1 D1) :
    Calls Tryz.prog 14 #[(.agg #[.int .i8 x.kd, .int .i64 x.b.pid, .int .i64 x.b.ep, .int .i64 x.b.seq, .bool x.b.txn, .slice A1 x.b.rs.length c1, .bool x.yes, .int .i64 x.nx, .int .i64 x.off, .int .i64 x.row.1, .int .i64 x.row.2.1, .int .i64 x.row.2.2.1, .string x.row.2.2.2.1, .string x.row.2.2.2.2, .int .i64 x.prod.pid, .int .i64 x.prod.ep, .int .i64 x.prod.nx, .slice D1 x.prod.seen.length e1])] w fun e w' => e = .returned (.bool (mayEn x)) ∧ Below w.heap.size w w' := by
  have HR := Lib.hid hr
  have HM := Lib.hid (show mayEn x = (sameEn x (bareEn x) && (rowB (0, x.row.2.1, x.row.2.2.1, x.row.2.2.2.1, x.row.2.2.2.2))) by rw [← mayR_eq x]; unfold okR; rw [hk]; rfl)
  have cc0 : (x.kd == 0) = false := by rw [hk]; rfl
  have cc1 : (x.kd == 1) = false := by rw [hk]; rfl
  have cc2 : (x.kd == 2) = false := by rw [hk]; rfl
  have cc3 : (x.kd == 3) = false := by rw [hk]; rfl
  have cc4 : (x.kd == 4) = false := by rw [hk]; rfl
  have cc5 : (x.kd == 5) = true := by rw [hk]; rfl
  have cc6 : (x.kd == 6) = false := by rw [hk]; rfl
  have K0 := Lib.hid (Blk.new w 32 #[.int .i8 x.kd, .int .i64 x.b.pid, .int .i64 x.b.ep, .int .i64 x.b.seq, .bool x.b.txn, .slice A1 x.b.rs.length c1, .bool x.yes, .int .i64 x.nx, .int .i64 x.off, .int .i64 x.row.1, .int .i64 x.row.2.1, .int .i64 x.row.2.2.1, .string x.row.2.2.2.1, .string x.row.2.2.2.2, .int .i64 x.prod.pid, .int .i64 x.prod.ep, .int .i64 x.prod.nx, .slice D1 x.prod.seen.length e1])
  have B0 := Lib.hid (bal (Below.refl w.heap.size w) (.cells #[.int .i8 x.kd, .int .i64 x.b.pid, .int .i64 x.b.ep, .int .i64 x.b.seq, .bool x.b.txn, .slice A1 x.b.rs.length c1, .bool x.yes, .int .i64 x.nx, .int .i64 x.off, .int .i64 x.row.1, .int .i64 x.row.2.1, .int .i64 x.row.2.2.1, .string x.row.2.2.2.1, .string x.row.2.2.2.2, .int .i64 x.prod.pid, .int .i64 x.prod.ep, .int .i64 x.prod.nx, .slice D1 x.prod.seen.length e1] 32))
  clear hr hk
  generalize hsm : sameEn x (bareEn x) = sm at HM
  have HSM := Lib.hid hsm
  clear hsm
  go_enter Tryz.func14, Tryz.ntmps14
  go_upto_region 1 with (fail)
  go_region_held3 (fun W => (loadCells ⟨w.heap.size, 0, none⟩ 18).run Tryz.prog W = .ok #[.int .i8 x.kd, .int .i64 x.b.pid, .int .i64 x.b.ep, .int .i64 x.b.seq, .bool x.b.txn, .slice A1 x.b.rs.length c1, .bool x.yes, .int .i64 x.nx, .int .i64 x.off, .int .i64 x.row.1, .int .i64 x.row.2.1, .int .i64 x.row.2.2.1, .string x.row.2.2.2.1, .string x.row.2.2.2.2, .int .i64 x.prod.pid, .int .i64 x.prod.ep, .int .i64 x.prod.nx, .slice D1 x.prod.seen.length e1] W)
    (first | exact cells_blk K0.out.drew rfl | exact yL | exact zL)
    (first
      | (go_at_call 39; refine (bare_any x A1 D1 c1 e1 _ (HR.out.up (B0.out.trans (Below.refl _ _).drew))).mono ?_; rintro e w4 ⟨A9, D9, c9, e9, rfl, r9, b4⟩; have k4 := K0.out.drew.below b4 K0.out.lt; have K4 := Lib.hid k4; have yL := cells_blk k4 rfl; have B4 := Lib.hid (btrans B0.out ((Below.refl _ _).drew.trans (b4.mono (Nat.le_refl _)))); have R9 := Lib.hid r9; clear k4 b4 r9)
      | (go_at_call 16; refine (rEnSame_any x (bareEn x) A1 D1 A9 D9 c1 e1 c9 e9 _ (HR.out.up B4.out) R9.out).mono ?_; rintro e w5 ⟨rfl, b5⟩; have k5 := K4.out.below b5 K4.out.lt; have K5 := Lib.hid k5; have zL := cells_blk k5 rfl; have B5 := Lib.hid (btrans B4.out b5); clear k5 b5))
  all_goals
    rw [HSM.out]
    cases sm
    case false =>
      go_wp2_with fail
      go_ret
      exact ⟨ret_bool (by rw [HM.out]; rfl), B5.out⟩
    clear zL
    have x0 := K5.out.cell 0
    have LB := cells_off K5.out 9 5 rfl rfl
    go_wp2_with fail
    refine (MayRow_any x.row _).mono ?_
    rintro e w6 ⟨rfl, b6⟩
    have BZ := Lib.hid (btrans B5.out b6)
    go_wp2_with fail
    go_ret
    exact ⟨ret_bool (by rw [HM.out]; rfl), BZ.out⟩
set_option maxRecDepth 100000 in
set_option maxHeartbeats 4000000 in
theorem rEnMay_6 (x : En) (hk : x.kd = 6) (A1 D1 : Option Addr) (c1 e1 : Nat) (w : World) (hr : EnR w x A1 D1) :
    Calls Tryz.prog 14 #[(.agg #[.int .i8 x.kd, .int .i64 x.b.pid, .int .i64 x.b.ep, .int .i64 x.b.seq, .bool x.b.txn, .slice A1 x.b.rs.length c1, .bool x.yes, .int .i64 x.nx, .int .i64 x.off, .int .i64 x.row.1, .int .i64 x.row.2.1, .int .i64 x.row.2.2.1, .string x.row.2.2.2.1, .string x.row.2.2.2.2, .int .i64 x.prod.pid, .int .i64 x.prod.ep, .int .i64 x.prod.nx, .slice D1 x.prod.seen.length e1])] w fun e w' => e = .returned (.bool (mayEn x)) ∧ Below w.heap.size w w' := by
  have HR := Lib.hid hr
  have HM := Lib.hid (show mayEn x = (sameEn x (bareEn x) && (knownB x.prod)) by rw [← mayR_eq x]; unfold okR; rw [hk]; rfl)
  have cc0 : (x.kd == 0) = false := by rw [hk]; rfl
  have cc1 : (x.kd == 1) = false := by rw [hk]; rfl
  have cc2 : (x.kd == 2) = false := by rw [hk]; rfl
  have cc3 : (x.kd == 3) = false := by rw [hk]; rfl
  have cc4 : (x.kd == 4) = false := by rw [hk]; rfl
  have cc5 : (x.kd == 5) = false := by rw [hk]; rfl
  have cc6 : (x.kd == 6) = true := by rw [hk]; rfl
  have K0 := Lib.hid (Blk.new w 32 #[.int .i8 x.kd, .int .i64 x.b.pid, .int .i64 x.b.ep, .int .i64 x.b.seq, .bool x.b.txn, .slice A1 x.b.rs.length c1, .bool x.yes, .int .i64 x.nx, .int .i64 x.off, .int .i64 x.row.1, .int .i64 x.row.2.1, .int .i64 x.row.2.2.1, .string x.row.2.2.2.1, .string x.row.2.2.2.2, .int .i64 x.prod.pid, .int .i64 x.prod.ep, .int .i64 x.prod.nx, .slice D1 x.prod.seen.length e1])
  have B0 := Lib.hid (bal (Below.refl w.heap.size w) (.cells #[.int .i8 x.kd, .int .i64 x.b.pid, .int .i64 x.b.ep, .int .i64 x.b.seq, .bool x.b.txn, .slice A1 x.b.rs.length c1, .bool x.yes, .int .i64 x.nx, .int .i64 x.off, .int .i64 x.row.1, .int .i64 x.row.2.1, .int .i64 x.row.2.2.1, .string x.row.2.2.2.1, .string x.row.2.2.2.2, .int .i64 x.prod.pid, .int .i64 x.prod.ep, .int .i64 x.prod.nx, .slice D1 x.prod.seen.length e1] 32))
  clear hr hk
  generalize hsm : sameEn x (bareEn x) = sm at HM
  have HSM := Lib.hid hsm
  clear hsm
  go_enter Tryz.func14, Tryz.ntmps14
  go_upto_region 1 with (fail)
  go_region_held3 (fun W => (loadCells ⟨w.heap.size, 0, none⟩ 18).run Tryz.prog W = .ok #[.int .i8 x.kd, .int .i64 x.b.pid, .int .i64 x.b.ep, .int .i64 x.b.seq, .bool x.b.txn, .slice A1 x.b.rs.length c1, .bool x.yes, .int .i64 x.nx, .int .i64 x.off, .int .i64 x.row.1, .int .i64 x.row.2.1, .int .i64 x.row.2.2.1, .string x.row.2.2.2.1, .string x.row.2.2.2.2, .int .i64 x.prod.pid, .int .i64 x.prod.ep, .int .i64 x.prod.nx, .slice D1 x.prod.seen.length e1] W)
    (first | exact cells_blk K0.out.drew rfl | exact yL | exact zL)
    (first
      | (go_at_call 39; refine (bare_any x A1 D1 c1 e1 _ (HR.out.up (B0.out.trans (Below.refl _ _).drew))).mono ?_; rintro e w4 ⟨A9, D9, c9, e9, rfl, r9, b4⟩; have k4 := K0.out.drew.below b4 K0.out.lt; have K4 := Lib.hid k4; have yL := cells_blk k4 rfl; have B4 := Lib.hid (btrans B0.out ((Below.refl _ _).drew.trans (b4.mono (Nat.le_refl _)))); have R9 := Lib.hid r9; clear k4 b4 r9)
      | (go_at_call 16; refine (rEnSame_any x (bareEn x) A1 D1 A9 D9 c1 e1 c9 e9 _ (HR.out.up B4.out) R9.out).mono ?_; rintro e w5 ⟨rfl, b5⟩; have k5 := K4.out.below b5 K4.out.lt; have K5 := Lib.hid k5; have zL := cells_blk k5 rfl; have B5 := Lib.hid (btrans B4.out b5); clear k5 b5))
  all_goals
    rw [HSM.out]
    cases sm
    case false =>
      go_wp2_with fail
      go_ret
      exact ⟨ret_bool (by rw [HM.out]; rfl), B5.out⟩
    clear zL
    have x0 := K5.out.cell 0
    have LB := cells_off K5.out 14 4 rfl rfl
    go_wp2_with fail
    refine (rKnown_any x.prod D1 e1 _ (HR.out.up B5.out).2.1).mono ?_
    rintro e w6 ⟨rfl, b6⟩
    have BZ := Lib.hid (btrans B5.out b6)
    go_wp2_with fail
    go_ret
    exact ⟨ret_bool (by rw [HM.out]; rfl), BZ.out⟩
set_option maxRecDepth 100000 in
set_option maxHeartbeats 4000000 in
theorem rEnMay_3 (x : En) (hk : x.kd = 3) (A1 D1 : Option Addr) (c1 e1 : Nat) (w : World) (hr : EnR w x A1 D1) :
    Calls Tryz.prog 14 #[(.agg #[.int .i8 x.kd, .int .i64 x.b.pid, .int .i64 x.b.ep, .int .i64 x.b.seq, .bool x.b.txn, .slice A1 x.b.rs.length c1, .bool x.yes, .int .i64 x.nx, .int .i64 x.off, .int .i64 x.row.1, .int .i64 x.row.2.1, .int .i64 x.row.2.2.1, .string x.row.2.2.2.1, .string x.row.2.2.2.2, .int .i64 x.prod.pid, .int .i64 x.prod.ep, .int .i64 x.prod.nx, .slice D1 x.prod.seen.length e1])] w fun e w' => e = .returned (.bool (mayEn x)) ∧ Below w.heap.size w w' := by
  have HR := Lib.hid hr
  have HM := Lib.hid (show mayEn x = (sameEn x (bareEn x) && (mayBt x.b && (x.b.txn && seqB x.nx))) by rw [← mayR_eq x]; unfold okR; rw [hk]; rfl)
  have cc0 : (x.kd == 0) = false := by rw [hk]; rfl
  have cc1 : (x.kd == 1) = false := by rw [hk]; rfl
  have cc2 : (x.kd == 2) = false := by rw [hk]; rfl
  have cc3 : (x.kd == 3) = true := by rw [hk]; rfl
  have cc4 : (x.kd == 4) = false := by rw [hk]; rfl
  have cc5 : (x.kd == 5) = false := by rw [hk]; rfl
  have cc6 : (x.kd == 6) = false := by rw [hk]; rfl
  have K0 := Lib.hid (Blk.new w 32 #[.int .i8 x.kd, .int .i64 x.b.pid, .int .i64 x.b.ep, .int .i64 x.b.seq, .bool x.b.txn, .slice A1 x.b.rs.length c1, .bool x.yes, .int .i64 x.nx, .int .i64 x.off, .int .i64 x.row.1, .int .i64 x.row.2.1, .int .i64 x.row.2.2.1, .string x.row.2.2.2.1, .string x.row.2.2.2.2, .int .i64 x.prod.pid, .int .i64 x.prod.ep, .int .i64 x.prod.nx, .slice D1 x.prod.seen.length e1])
  have B0 := Lib.hid (bal (Below.refl w.heap.size w) (.cells #[.int .i8 x.kd, .int .i64 x.b.pid, .int .i64 x.b.ep, .int .i64 x.b.seq, .bool x.b.txn, .slice A1 x.b.rs.length c1, .bool x.yes, .int .i64 x.nx, .int .i64 x.off, .int .i64 x.row.1, .int .i64 x.row.2.1, .int .i64 x.row.2.2.1, .string x.row.2.2.2.1, .string x.row.2.2.2.2, .int .i64 x.prod.pid, .int .i64 x.prod.ep, .int .i64 x.prod.nx, .slice D1 x.prod.seen.length e1] 32))
  clear hr hk
  generalize hsm : sameEn x (bareEn x) = sm at HM
  have HSM := Lib.hid hsm
  clear hsm
  go_enter Tryz.func14, Tryz.ntmps14
  go_upto_region 1 with (fail)
  go_region_held3 (fun W => (loadCells ⟨w.heap.size, 0, none⟩ 18).run Tryz.prog W = .ok #[.int .i8 x.kd, .int .i64 x.b.pid, .int .i64 x.b.ep, .int .i64 x.b.seq, .bool x.b.txn, .slice A1 x.b.rs.length c1, .bool x.yes, .int .i64 x.nx, .int .i64 x.off, .int .i64 x.row.1, .int .i64 x.row.2.1, .int .i64 x.row.2.2.1, .string x.row.2.2.2.1, .string x.row.2.2.2.2, .int .i64 x.prod.pid, .int .i64 x.prod.ep, .int .i64 x.prod.nx, .slice D1 x.prod.seen.length e1] W)
    (first | exact cells_blk K0.out.drew rfl | exact yL | exact zL)
    (first
      | (go_at_call 39; refine (bare_any x A1 D1 c1 e1 _ (HR.out.up (B0.out.trans (Below.refl _ _).drew))).mono ?_; rintro e w4 ⟨A9, D9, c9, e9, rfl, r9, b4⟩; have k4 := K0.out.drew.below b4 K0.out.lt; have K4 := Lib.hid k4; have yL := cells_blk k4 rfl; have B4 := Lib.hid (btrans B0.out ((Below.refl _ _).drew.trans (b4.mono (Nat.le_refl _)))); have R9 := Lib.hid r9; clear k4 b4 r9)
      | (go_at_call 16; refine (rEnSame_any x (bareEn x) A1 D1 A9 D9 c1 e1 c9 e9 _ (HR.out.up B4.out) R9.out).mono ?_; rintro e w5 ⟨rfl, b5⟩; have k5 := K4.out.below b5 K4.out.lt; have K5 := Lib.hid k5; have zL := cells_blk k5 rfl; have B5 := Lib.hid (btrans B4.out b5); clear k5 b5))
  all_goals
    rw [HSM.out]
    cases sm
    case false =>
      go_wp2_with fail
      go_ret
      exact ⟨ret_bool (by rw [HM.out]; rfl), B5.out⟩
    clear zL
    have x0 := K5.out.cell 0
    have LB := cells_off K5.out 1 5 rfl rfl
    generalize hmb : mayBt x.b = mb at HM
    have HMB := Lib.hid hmb
    clear hmb
    go_wp2_with fail
    refine (rRcMay_any x.b A1 c1 _ (HR.out.up B5.out).1).mono ?_
    rintro e w6 ⟨rfl, b6⟩
    rw [HMB.out]
    have K6 := Lib.hid (K5.out.below b6 K5.out.lt)
    have BZ := Lib.hid (btrans B5.out b6)
    clear b6 LB x0
    have x4 := K6.out.cell 4
    have x7 := K6.out.cell 7
    obtain ⟨tt, htt⟩ : ∃ tt, x.b.txn = tt := ⟨_, rfl⟩
    rw [htt] at x4 HM
    clear htt
    cases mb
    case false =>
      go_wp2_with fail
      go_ret
      exact ⟨ret_bool (by rw [HM.out]; rfl), BZ.out⟩
    cases tt
    case false =>
      go_wp2_with fail
      go_ret
      exact ⟨ret_bool (by rw [HM.out]; rfl), BZ.out⟩
    go_wp2_with fail
    refine (withinS_any x.nx _).mono ?_
    rintro e w7 ⟨rfl, rfl⟩
    go_wp2_with fail
    go_ret
    exact ⟨ret_bool (by rw [HM.out]; rfl), BZ.out⟩
set_option maxRecDepth 100000 in
set_option maxHeartbeats 4000000 in
theorem rEnMay_4 (x : En) (hk : x.kd = 4) (A1 D1 : Option Addr) (c1 e1 : Nat) (w : World) (hr : EnR w x A1 D1) :
    Calls Tryz.prog 14 #[(.agg #[.int .i8 x.kd, .int .i64 x.b.pid, .int .i64 x.b.ep, .int .i64 x.b.seq, .bool x.b.txn, .slice A1 x.b.rs.length c1, .bool x.yes, .int .i64 x.nx, .int .i64 x.off, .int .i64 x.row.1, .int .i64 x.row.2.1, .int .i64 x.row.2.2.1, .string x.row.2.2.2.1, .string x.row.2.2.2.2, .int .i64 x.prod.pid, .int .i64 x.prod.ep, .int .i64 x.prod.nx, .slice D1 x.prod.seen.length e1])] w fun e w' => e = .returned (.bool (mayEn x)) ∧ Below w.heap.size w w' := by
  have HR := Lib.hid hr
  have HM := Lib.hid (show mayEn x = (sameEn x (bareEn x) && (prodB x.b.pid x.b.ep && seqB x.nx)) by rw [← mayR_eq x]; unfold okR; rw [hk]; rfl)
  have cc0 : (x.kd == 0) = false := by rw [hk]; rfl
  have cc1 : (x.kd == 1) = false := by rw [hk]; rfl
  have cc2 : (x.kd == 2) = false := by rw [hk]; rfl
  have cc3 : (x.kd == 3) = false := by rw [hk]; rfl
  have cc4 : (x.kd == 4) = true := by rw [hk]; rfl
  have cc5 : (x.kd == 5) = false := by rw [hk]; rfl
  have cc6 : (x.kd == 6) = false := by rw [hk]; rfl
  have K0 := Lib.hid (Blk.new w 32 #[.int .i8 x.kd, .int .i64 x.b.pid, .int .i64 x.b.ep, .int .i64 x.b.seq, .bool x.b.txn, .slice A1 x.b.rs.length c1, .bool x.yes, .int .i64 x.nx, .int .i64 x.off, .int .i64 x.row.1, .int .i64 x.row.2.1, .int .i64 x.row.2.2.1, .string x.row.2.2.2.1, .string x.row.2.2.2.2, .int .i64 x.prod.pid, .int .i64 x.prod.ep, .int .i64 x.prod.nx, .slice D1 x.prod.seen.length e1])
  have B0 := Lib.hid (bal (Below.refl w.heap.size w) (.cells #[.int .i8 x.kd, .int .i64 x.b.pid, .int .i64 x.b.ep, .int .i64 x.b.seq, .bool x.b.txn, .slice A1 x.b.rs.length c1, .bool x.yes, .int .i64 x.nx, .int .i64 x.off, .int .i64 x.row.1, .int .i64 x.row.2.1, .int .i64 x.row.2.2.1, .string x.row.2.2.2.1, .string x.row.2.2.2.2, .int .i64 x.prod.pid, .int .i64 x.prod.ep, .int .i64 x.prod.nx, .slice D1 x.prod.seen.length e1] 32))
  clear hr hk
  generalize hsm : sameEn x (bareEn x) = sm at HM
  have HSM := Lib.hid hsm
  clear hsm
  go_enter Tryz.func14, Tryz.ntmps14
  go_upto_region 1 with (fail)
  go_region_held3 (fun W => (loadCells ⟨w.heap.size, 0, none⟩ 18).run Tryz.prog W = .ok #[.int .i8 x.kd, .int .i64 x.b.pid, .int .i64 x.b.ep, .int .i64 x.b.seq, .bool x.b.txn, .slice A1 x.b.rs.length c1, .bool x.yes, .int .i64 x.nx, .int .i64 x.off, .int .i64 x.row.1, .int .i64 x.row.2.1, .int .i64 x.row.2.2.1, .string x.row.2.2.2.1, .string x.row.2.2.2.2, .int .i64 x.prod.pid, .int .i64 x.prod.ep, .int .i64 x.prod.nx, .slice D1 x.prod.seen.length e1] W)
    (first | exact cells_blk K0.out.drew rfl | exact yL | exact zL)
    (first
      | (go_at_call 39; refine (bare_any x A1 D1 c1 e1 _ (HR.out.up (B0.out.trans (Below.refl _ _).drew))).mono ?_; rintro e w4 ⟨A9, D9, c9, e9, rfl, r9, b4⟩; have k4 := K0.out.drew.below b4 K0.out.lt; have K4 := Lib.hid k4; have yL := cells_blk k4 rfl; have B4 := Lib.hid (btrans B0.out ((Below.refl _ _).drew.trans (b4.mono (Nat.le_refl _)))); have R9 := Lib.hid r9; clear k4 b4 r9)
      | (go_at_call 16; refine (rEnSame_any x (bareEn x) A1 D1 A9 D9 c1 e1 c9 e9 _ (HR.out.up B4.out) R9.out).mono ?_; rintro e w5 ⟨rfl, b5⟩; have k5 := K4.out.below b5 K4.out.lt; have K5 := Lib.hid k5; have zL := cells_blk k5 rfl; have B5 := Lib.hid (btrans B4.out b5); clear k5 b5))
  all_goals
    rw [HSM.out]
    cases sm
    case false =>
      go_wp2_with fail
      go_ret
      exact ⟨ret_bool (by rw [HM.out]; rfl), B5.out⟩
    clear zL
    have x0 := K5.out.cell 0
    have x1 := K5.out.cell 1
    have x2 := K5.out.cell 2
    have x7 := K5.out.cell 7
    generalize hmb : prodB x.b.pid x.b.ep = mb at HM
    have HMB := Lib.hid hmb
    clear hmb
    go_wp2_with fail
    refine (rproducer_any x.b.pid x.b.ep _).mono ?_
    rintro e w6 ⟨rfl, rfl⟩
    rw [HMB.out]
    cases mb
    case false =>
      go_wp2_with fail
      go_ret
      exact ⟨ret_bool (by rw [HM.out]; rfl), B5.out⟩
    go_wp2_with fail
    refine (withinS_any x.nx _).mono ?_
    rintro e w7 ⟨rfl, rfl⟩
    go_wp2_with fail
    go_ret
    exact ⟨ret_bool (by rw [HM.out]; rfl), B5.out⟩
set_option maxRecDepth 100000 in
set_option maxHeartbeats 4000000 in
theorem rEnMay_9 (x : En) (h0 : ¬ x.kd = 0) (h1 : ¬ x.kd = 1) (h2 : ¬ x.kd = 2) (h3 : ¬ x.kd = 3) (h4 : ¬ x.kd = 4) (h5 : ¬ x.kd = 5) (h6 : ¬ x.kd = 6) (A1 D1 : Option Addr) (c1 e1 : Nat) (w : World) (hr : EnR w x A1 D1) :
    Calls Tryz.prog 14 #[(.agg #[.int .i8 x.kd, .int .i64 x.b.pid, .int .i64 x.b.ep, .int .i64 x.b.seq, .bool x.b.txn, .slice A1 x.b.rs.length c1, .bool x.yes, .int .i64 x.nx, .int .i64 x.off, .int .i64 x.row.1, .int .i64 x.row.2.1, .int .i64 x.row.2.2.1, .string x.row.2.2.2.1, .string x.row.2.2.2.2, .int .i64 x.prod.pid, .int .i64 x.prod.ep, .int .i64 x.prod.nx, .slice D1 x.prod.seen.length e1])] w fun e w' => e = .returned (.bool (mayEn x)) ∧ Below w.heap.size w w' := by
  have HR := Lib.hid hr
  have HM := Lib.hid (show mayEn x = (sameEn x (bareEn x) && (false)) by rw [← mayR_eq x]; unfold okR; rw [if_neg h0, if_neg h1, if_neg h2, if_neg h3, if_neg h4, if_neg h5, if_neg h6])
  have cc0 : (x.kd == 0) = false := by simpa using h0
  have cc1 : (x.kd == 1) = false := by simpa using h1
  have cc2 : (x.kd == 2) = false := by simpa using h2
  have cc3 : (x.kd == 3) = false := by simpa using h3
  have cc4 : (x.kd == 4) = false := by simpa using h4
  have cc5 : (x.kd == 5) = false := by simpa using h5
  have cc6 : (x.kd == 6) = false := by simpa using h6
  have K0 := Lib.hid (Blk.new w 32 #[.int .i8 x.kd, .int .i64 x.b.pid, .int .i64 x.b.ep, .int .i64 x.b.seq, .bool x.b.txn, .slice A1 x.b.rs.length c1, .bool x.yes, .int .i64 x.nx, .int .i64 x.off, .int .i64 x.row.1, .int .i64 x.row.2.1, .int .i64 x.row.2.2.1, .string x.row.2.2.2.1, .string x.row.2.2.2.2, .int .i64 x.prod.pid, .int .i64 x.prod.ep, .int .i64 x.prod.nx, .slice D1 x.prod.seen.length e1])
  have B0 := Lib.hid (bal (Below.refl w.heap.size w) (.cells #[.int .i8 x.kd, .int .i64 x.b.pid, .int .i64 x.b.ep, .int .i64 x.b.seq, .bool x.b.txn, .slice A1 x.b.rs.length c1, .bool x.yes, .int .i64 x.nx, .int .i64 x.off, .int .i64 x.row.1, .int .i64 x.row.2.1, .int .i64 x.row.2.2.1, .string x.row.2.2.2.1, .string x.row.2.2.2.2, .int .i64 x.prod.pid, .int .i64 x.prod.ep, .int .i64 x.prod.nx, .slice D1 x.prod.seen.length e1] 32))
  clear hr h0 h1 h2 h3 h4 h5 h6
  generalize hsm : sameEn x (bareEn x) = sm at HM
  have HSM := Lib.hid hsm
  clear hsm
  go_enter Tryz.func14, Tryz.ntmps14
  go_upto_region 1 with (fail)
  go_region_held3 (fun W => (loadCells ⟨w.heap.size, 0, none⟩ 18).run Tryz.prog W = .ok #[.int .i8 x.kd, .int .i64 x.b.pid, .int .i64 x.b.ep, .int .i64 x.b.seq, .bool x.b.txn, .slice A1 x.b.rs.length c1, .bool x.yes, .int .i64 x.nx, .int .i64 x.off, .int .i64 x.row.1, .int .i64 x.row.2.1, .int .i64 x.row.2.2.1, .string x.row.2.2.2.1, .string x.row.2.2.2.2, .int .i64 x.prod.pid, .int .i64 x.prod.ep, .int .i64 x.prod.nx, .slice D1 x.prod.seen.length e1] W)
    (first | exact cells_blk K0.out.drew rfl | exact yL | exact zL)
    (first
      | (go_at_call 39; refine (bare_any x A1 D1 c1 e1 _ (HR.out.up (B0.out.trans (Below.refl _ _).drew))).mono ?_; rintro e w4 ⟨A9, D9, c9, e9, rfl, r9, b4⟩; have k4 := K0.out.drew.below b4 K0.out.lt; have K4 := Lib.hid k4; have yL := cells_blk k4 rfl; have B4 := Lib.hid (btrans B0.out ((Below.refl _ _).drew.trans (b4.mono (Nat.le_refl _)))); have R9 := Lib.hid r9; clear k4 b4 r9)
      | (go_at_call 16; refine (rEnSame_any x (bareEn x) A1 D1 A9 D9 c1 e1 c9 e9 _ (HR.out.up B4.out) R9.out).mono ?_; rintro e w5 ⟨rfl, b5⟩; have k5 := K4.out.below b5 K4.out.lt; have K5 := Lib.hid k5; have zL := cells_blk k5 rfl; have B5 := Lib.hid (btrans B4.out b5); clear k5 b5))
  all_goals
    rw [HSM.out]
    cases sm
    case false =>
      go_wp2_with fail
      go_ret
      exact ⟨ret_bool (by rw [HM.out]; rfl), B5.out⟩
    clear zL
    have x0 := K5.out.cell 0
    go_wp2_with fail
    go_ret
    exact ⟨ret_bool (by rw [HM.out]; rfl), B5.out⟩
end
theorem rEnMay_any (x : En) (A1 D1 : Option Addr) (c1 e1 : Nat) (w : World) (hr : EnR w x A1 D1) :
    Calls Tryz.prog 14 #[(.agg #[.int .i8 x.kd, .int .i64 x.b.pid, .int .i64 x.b.ep, .int .i64 x.b.seq, .bool x.b.txn, .slice A1 x.b.rs.length c1, .bool x.yes, .int .i64 x.nx, .int .i64 x.off, .int .i64 x.row.1, .int .i64 x.row.2.1, .int .i64 x.row.2.2.1, .string x.row.2.2.2.1, .string x.row.2.2.2.2, .int .i64 x.prod.pid, .int .i64 x.prod.ep, .int .i64 x.prod.nx, .slice D1 x.prod.seen.length e1])] w fun e w' => e = .returned (.bool (mayEn x)) ∧ Below w.heap.size w w' := by
  by_cases h0 : x.kd = 0
  · exact rEnMay_0 x h0 A1 D1 c1 e1 w hr
  by_cases h1 : x.kd = 1
  · exact rEnMay_1 x h1 A1 D1 c1 e1 w hr
  by_cases h2 : x.kd = 2
  · exact rEnMay_2 x h2 A1 D1 c1 e1 w hr
  by_cases h3 : x.kd = 3
  · exact rEnMay_3 x h3 A1 D1 c1 e1 w hr
  by_cases h4 : x.kd = 4
  · exact rEnMay_4 x h4 A1 D1 c1 e1 w hr
  by_cases h5 : x.kd = 5
  · exact rEnMay_5 x h5 A1 D1 c1 e1 w hr
  by_cases h6 : x.kd = 6
  · exact rEnMay_6 x h6 A1 D1 c1 e1 w hr
  exact rEnMay_9 x h0 h1 h2 h3 h4 h5 h6 A1 D1 c1 e1 w hr
end Go.Proofs.YtckdecodpjfcnaaGreatDoor
