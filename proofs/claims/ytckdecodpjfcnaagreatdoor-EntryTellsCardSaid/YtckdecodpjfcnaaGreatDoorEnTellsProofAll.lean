/-
  The card of EntryTells is proved: for every input the call returns true, and each argument reads as before. No condition but the row's own list, which the card ties to the program's text.
  Layer 7, the document's: SameProd, Same, small functions.
  Layer 7, the document's: Known.
  Layer 7, the document's: bare: an entry with the fields that its kind names alone; which entries may be, in the document's words.
  Layer 7, the document's: May of entries.
  Layer 7, the document's: Bytes of entries.
  Layer 7: Great of entries.
  The statement EntryTells: its walk.
  Arguments that are structs and slices of structs, opened. (After the guide's page on structs.)
  Arguments that are batches, opened.
  Arguments that are requests, and slices of requests, opened.
  Arguments that are entries, producers, opened.
-/
import Derived.Test.YtckdecodpjfcnaaGreatDoorGrp19
import Derived.Test.YtckdecodpjfcnaaGreatDoorGrp30
import Derived.Test.YtckdecodpjfcnaaGreatDoorGrp22
import Derived.Deep.Slices
import Derived.Deep.Fields
import Derived.ChangeSame
import Derived.Lib.SmallJoins
import Derived.Test.YtckdecodpjfcnaaGreatDoorGrp23
import Derived.Test.YtckdecodpjfcnaaGreatDoorGrp04
set_option linter.unusedVariables false
set_option linter.unusedSimpArgs false
namespace Go.Proofs.YtckdecodpjfcnaaGreatDoor
open Go.RowKit

set_option maxRecDepth 100000 in
set_option maxHeartbeats 1000000 in
theorem rSamePd_any (a b : Pd) (D1 D2 : Option Addr) (e1 e2 : Nat) (w : World) (h1 : Reads w w.heap.size 3 D1 a.seen.length (cellsN a.seen)) (h2 : Reads w w.heap.size 3 D2 b.seen.length (cellsN b.seen)) (hl : a.seen.length ≤ 1000000) :
    Calls Tryz.prog 20 #[(.agg #[.int .i64 a.pid, .int .i64 a.ep, .int .i64 a.nx, .slice D1 a.seen.length e1]), (.agg #[.int .i64 b.pid, .int .i64 b.ep, .int .i64 b.nx, .slice D2 b.seen.length e2])] w fun e w' => e = .returned (.bool (samePd a b)) ∧ Below w.heap.size w w' := by
  have HA := Lib.hid (show samePd a b = (decide (a.pid = b.pid) && (decide (a.ep = b.ep) && (decide (a.nx = b.nx) && decide (a.seen = b.seen)))) from rfl)
  have HB := Lib.hid (bal (bal (Below.refl w.heap.size w) (.cells #[.int .i64 a.pid, .int .i64 a.ep, .int .i64 a.nx, .slice D1 a.seen.length e1] 30)) (.cells #[.int .i64 b.pid, .int .i64 b.ep, .int .i64 b.nx, .slice D2 b.seen.length e2] 30))
  by_cases hpid : a.pid = b.pid
  case neg =>
    have d0 : (a.pid != b.pid) = true := ne_true hpid
    have HF := Lib.hid (show samePd a b = false by rw [HA.out, decide_eq_false hpid]; rfl)
    clear h1 h2 hpid
    go_enter Tryz.func20, Tryz.ntmps20
    go_wp2_with fail
    go_ret
    exact ⟨ret_bool HF.out.symm, HB.out⟩
  have d0 : (a.pid != b.pid) = false := ne_false hpid
  by_cases hep : a.ep = b.ep
  case neg =>
    have d1 : (a.ep != b.ep) = true := ne_true hep
    have HF := Lib.hid (show samePd a b = false by rw [HA.out, decide_eq_false hep]; simp)
    clear h1 h2 hpid hep
    go_enter Tryz.func20, Tryz.ntmps20
    go_wp2_with fail
    go_ret
    exact ⟨ret_bool HF.out.symm, HB.out⟩
  have d1 : (a.ep != b.ep) = false := ne_false hep
  by_cases hnx : a.nx = b.nx
  case neg =>
    have d2 : (a.nx != b.nx) = true := ne_true hnx
    have HF := Lib.hid (show samePd a b = false by rw [HA.out, decide_eq_false hnx]; simp)
    clear h1 h2 hpid hep hnx
    go_enter Tryz.func20, Tryz.ntmps20
    go_wp2_with fail
    go_ret
    exact ⟨ret_bool HF.out.symm, HB.out⟩
  have d2 : (a.nx != b.nx) = false := ne_false hnx
  have HF := Lib.hid (show samePd a b = decide (a.seen = b.seen) by rw [HA.out, decide_eq_true hpid, decide_eq_true hep, decide_eq_true hnx]; rfl)
  by_cases hlen : a.seen.length = b.seen.length
  · have d5 : ((a.seen.length : Int) != (b.seen.length : Int)) = false := by rw [hlen]; simp
    have HH1 := Lib.hid ((h1.alloc (Nat.le_refl _) (.cells #[.int .i64 a.pid, .int .i64 a.ep, .int .i64 a.nx, .slice D1 a.seen.length e1] 30)).alloc (by simp) (.cells #[.int .i64 b.pid, .int .i64 b.ep, .int .i64 b.nx, .slice D2 b.seen.length e2] 30))
    have HH2 := Lib.hid ((h2.alloc (Nat.le_refl _) (.cells #[.int .i64 a.pid, .int .i64 a.ep, .int .i64 a.nx, .slice D1 a.seen.length e1] 30)).alloc (by simp) (.cells #[.int .i64 b.pid, .int .i64 b.ep, .int .i64 b.nx, .slice D2 b.seen.length e2] 30))
    have HLEN := Lib.hid hlen
    have hl2 : a.seen.length ≤ b.seen.length := by omega
    have hl3 : b.seen.length ≤ a.seen.length := by omega
    have x3 := ((Blk.new w 30 #[.int .i64 a.pid, .int .i64 a.ep, .int .i64 a.nx, .slice D1 a.seen.length e1]).alloc (.cells #[.int .i64 b.pid, .int .i64 b.ep, .int .i64 b.nx, .slice D2 b.seen.length e2] 30)).cell 3
    have kk := Blk.new (w.alloc (.cells #[.int .i64 a.pid, .int .i64 a.ep, .int .i64 a.nx, .slice D1 a.seen.length e1] 30)) 30 #[.int .i64 b.pid, .int .i64 b.ep, .int .i64 b.nx, .slice D2 b.seen.length e2]
    rw [World.size_alloc] at kk
    have y3 := kk.cell 3
    have hm : Tryz.prog.eqGuardType Tryz.prog.depth 73 = false := by kernel_rfl
    clear h1 h2 hlen hpid hep hnx kk
    go_enter Tryz.func20, Tryz.ntmps20
    go_wp2_with fail
    generalize hW : (w.alloc (.cells #[.int .i64 a.pid, .int .i64 a.ep, .int .i64 a.nx, .slice D1 a.seen.length e1] 30)).alloc (.cells #[.int .i64 b.pid, .int .i64 b.ep, .int .i64 b.nx, .slice D2 b.seen.length e2] 30) = W at *
    clear hW
    go_loopw [5] (fun y wr => ∃ k q : Nat, k ≤ a.seen.length ∧ y = .int .i64 k ∧ wr = W.drewN q ∧ a.seen.take k = b.seen.take k) (fun y _ => a.seen.length - (intOf y).toNat)
    case atStart => exact ⟨0, 0, Nat.zero_le _, rfl, rfl, by simp⟩
    case round =>
      obtain ⟨k, q, hk, rfl, rfl, htk⟩ := hrel
      have HTK := Lib.hid htk
      clear htk
      by_cases hlt : k < a.seen.length
      · have d1' : decide ((k : Int) < (a.seen.length : Int)) = true := by simp; omega
        obtain ⟨b1, o1, rfl, _, hc1⟩ := HH1.out.plain3 (by omega)
        obtain ⟨b2, o2, rfl, _, hc2⟩ := HH2.out.plain3 (by omega)
        obtain ⟨x, hx⟩ : ∃ z, a.seen[k]? = some z := ⟨_, List.getElem?_eq_getElem hlt⟩
        obtain ⟨y, hy⟩ : ∃ z, b.seen[k]? = some z := ⟨_, List.getElem?_eq_getElem (by omega)⟩
        obtain ⟨g1, g2, g3⟩ := hc1 k _ hx
        obtain ⟨g4, g5, g6⟩ := hc2 k _ hy
        have heq := fun W => eqSn x y W
        have i1 : (0 : Int) ≤ (k : Int) := by omega
        have i2 : (k : Int) < (a.seen.length : Int) := by omega
        have i3 : (k : Int) < (b.seen.length : Int) := by omega
        have HTS := Lib.hid (take_snoc_eq HTK.out hx hy)
        have HX := Lib.hid hx
        have HY := Lib.hid hy
        clear hc1 hc2 hx hy
        by_cases hxy : x = y
        · have HXY := Lib.hid hxy
          rw [decide_eq_true hxy] at heq
          clear hxy
          go_wp2_with fail
          go_quiet (fail)
          go_wp2_with fail
          go_roundw
          case rel => exact ⟨k + 1, _, by omega, by go_num, rfl, HTS.out.2 HXY.out⟩
          case measure => simp [intOf]; omega
        · rw [decide_eq_false hxy] at heq
          have hne : a.seen ≠ b.seen := ne_of_at HX.out HY.out hxy
          have HN := Lib.hid (decide_eq_false hne)
          clear hne hxy
          go_wp2_with fail
          go_quiet (fail)
          go_wp2_with fail
          go_ret
          exact ⟨ret_bool (by rw [HF.out, HN.out]), below_drewN (below_drewN HB.out _) _⟩
      · obtain rfl : k = a.seen.length := by omega
        have d1' : decide ((a.seen.length : Int) < (a.seen.length : Int)) = false := by simp
        have he : a.seen = b.seen := by
          have h3 := HTK.out
          rw [List.take_length, HLEN.out, List.take_length] at h3
          exact h3
        have HN := Lib.hid (decide_eq_true he)
        clear he
        go_wp2_with fail
        go_ret
        exact ⟨ret_bool (by rw [HF.out, HN.out]), below_drewN HB.out _⟩
  · have d5 : ((a.seen.length : Int) != (b.seen.length : Int)) = true := by simp; omega
    have hne : ¬ a.seen = b.seen := fun h => hlen (by rw [h])
    have HN := Lib.hid (decide_eq_false hne)
    clear h1 h2 hlen hpid hep hnx hne
    go_enter Tryz.func20, Tryz.ntmps20
    go_wp2_with fail
    go_ret
    exact ⟨ret_bool (by rw [HF.out, HN.out]), HB.out⟩

set_option maxRecDepth 100000 in
set_option maxHeartbeats 4000000 in
theorem rEnSame_any (a b : En) (A1 D1 A2 D2 : Option Addr) (c1 e1 c2 e2 : Nat) (w : World) (h1 : EnR w a A1 D1) (h2 : EnR w b A2 D2) :
    Calls Tryz.prog 16 #[(.agg #[.int .i8 a.kd, .int .i64 a.b.pid, .int .i64 a.b.ep, .int .i64 a.b.seq, .bool a.b.txn, .slice A1 a.b.rs.length c1, .bool a.yes, .int .i64 a.nx, .int .i64 a.off, .int .i64 a.row.1, .int .i64 a.row.2.1, .int .i64 a.row.2.2.1, .string a.row.2.2.2.1, .string a.row.2.2.2.2, .int .i64 a.prod.pid, .int .i64 a.prod.ep, .int .i64 a.prod.nx, .slice D1 a.prod.seen.length e1]), (.agg #[.int .i8 b.kd, .int .i64 b.b.pid, .int .i64 b.b.ep, .int .i64 b.b.seq, .bool b.b.txn, .slice A2 b.b.rs.length c2, .bool b.yes, .int .i64 b.nx, .int .i64 b.off, .int .i64 b.row.1, .int .i64 b.row.2.1, .int .i64 b.row.2.2.1, .string b.row.2.2.2.1, .string b.row.2.2.2.2, .int .i64 b.prod.pid, .int .i64 b.prod.ep, .int .i64 b.prod.nx, .slice D2 b.prod.seen.length e2])] w fun e w' => e = .returned (.bool (sameEn a b)) ∧ Below w.heap.size w w' := by
  have HB := Lib.hid (bal (bal (Below.refl w.heap.size w) (.cells #[.int .i8 a.kd, .int .i64 a.b.pid, .int .i64 a.b.ep, .int .i64 a.b.seq, .bool a.b.txn, .slice A1 a.b.rs.length c1, .bool a.yes, .int .i64 a.nx, .int .i64 a.off, .int .i64 a.row.1, .int .i64 a.row.2.1, .int .i64 a.row.2.2.1, .string a.row.2.2.2.1, .string a.row.2.2.2.2, .int .i64 a.prod.pid, .int .i64 a.prod.ep, .int .i64 a.prod.nx, .slice D1 a.prod.seen.length e1] 32)) (.cells #[.int .i8 b.kd, .int .i64 b.b.pid, .int .i64 b.b.ep, .int .i64 b.b.seq, .bool b.b.txn, .slice A2 b.b.rs.length c2, .bool b.yes, .int .i64 b.nx, .int .i64 b.off, .int .i64 b.row.1, .int .i64 b.row.2.1, .int .i64 b.row.2.2.1, .string b.row.2.2.2.1, .string b.row.2.2.2.2, .int .i64 b.prod.pid, .int .i64 b.prod.ep, .int .i64 b.prod.nx, .slice D2 b.prod.seen.length e2] 32))
  have KA := Lib.hid ((Blk.new w 32 #[.int .i8 a.kd, .int .i64 a.b.pid, .int .i64 a.b.ep, .int .i64 a.b.seq, .bool a.b.txn, .slice A1 a.b.rs.length c1, .bool a.yes, .int .i64 a.nx, .int .i64 a.off, .int .i64 a.row.1, .int .i64 a.row.2.1, .int .i64 a.row.2.2.1, .string a.row.2.2.2.1, .string a.row.2.2.2.2, .int .i64 a.prod.pid, .int .i64 a.prod.ep, .int .i64 a.prod.nx, .slice D1 a.prod.seen.length e1]).alloc (.cells #[.int .i8 b.kd, .int .i64 b.b.pid, .int .i64 b.b.ep, .int .i64 b.b.seq, .bool b.b.txn, .slice A2 b.b.rs.length c2, .bool b.yes, .int .i64 b.nx, .int .i64 b.off, .int .i64 b.row.1, .int .i64 b.row.2.1, .int .i64 b.row.2.2.1, .string b.row.2.2.2.1, .string b.row.2.2.2.2, .int .i64 b.prod.pid, .int .i64 b.prod.ep, .int .i64 b.prod.nx, .slice D2 b.prod.seen.length e2] 32))
  have KB := Lib.hid (blk_new (w.alloc (.cells #[.int .i8 a.kd, .int .i64 a.b.pid, .int .i64 a.b.ep, .int .i64 a.b.seq, .bool a.b.txn, .slice A1 a.b.rs.length c1, .bool a.yes, .int .i64 a.nx, .int .i64 a.off, .int .i64 a.row.1, .int .i64 a.row.2.1, .int .i64 a.row.2.2.1, .string a.row.2.2.2.1, .string a.row.2.2.2.2, .int .i64 a.prod.pid, .int .i64 a.prod.ep, .int .i64 a.prod.nx, .slice D1 a.prod.seen.length e1] 32)) 32 #[.int .i8 b.kd, .int .i64 b.b.pid, .int .i64 b.b.ep, .int .i64 b.b.seq, .bool b.b.txn, .slice A2 b.b.rs.length c2, .bool b.yes, .int .i64 b.nx, .int .i64 b.off, .int .i64 b.row.1, .int .i64 b.row.2.1, .int .i64 b.row.2.2.1, .string b.row.2.2.2.1, .string b.row.2.2.2.2, .int .i64 b.prod.pid, .int .i64 b.prod.ep, .int .i64 b.prod.nx, .slice D2 b.prod.seen.length e2] (g := w.heap.size + 1) (by simp))
  have RS := Lib.hid (fun W (h : Below w.heap.size w W) => rRcSame_any a.b b.b A1 A2 c1 c2 W (h1.up h).1 (h2.up h).1 h1.2.2.1)
  have PS := Lib.hid (fun W (h : Below w.heap.size w W) => rSamePd_any a.prod b.prod D1 D2 e1 e2 W (h1.up h).2.1 (h2.up h).2.1 h1.2.2.2)
  have HA := Lib.hid (show sameEn a b = (decide (a.kd = b.kd) && (sameBt a.b b.b && ((a.yes == b.yes) && (decide (a.nx = b.nx) && (decide (a.off = b.off) && (decide (a.row = b.row) && samePd a.prod b.prod)))))) from rfl)
  have heq := fun W => eqRw7 a.row b.row W
  have hm : Tryz.prog.eqGuardType Tryz.prog.depth 27 = false := by kernel_rfl
  clear h1 h2
  have q1 : (a.kd == b.kd) = decide (a.kd = b.kd) := by rw [Bool.eq_iff_iff]; simp
  have q2 : (a.nx == b.nx) = decide (a.nx = b.nx) := by rw [Bool.eq_iff_iff]; simp
  have q3 : (a.off == b.off) = decide (a.off = b.off) := by rw [Bool.eq_iff_iff]; simp
  generalize decide (a.kd = b.kd) = d1 at *
  generalize sameBt a.b b.b = d2 at *
  generalize hy : (a.yes == b.yes) = d3 at *
  generalize decide (a.nx = b.nx) = d4 at *
  generalize decide (a.off = b.off) = d5 at *
  generalize decide (a.row = b.row) = d6 at *
  generalize samePd a.prod b.prod = d7 at *
  go_enter Tryz.func16, Tryz.ntmps16
  cases d1
  · go_wp2_with fail
    go_ret
    exact ⟨ret_bool (by rw [HA.out]; rfl), HB.out⟩
  have x1 := KA.out.cell 1
  have x2 := KA.out.cell 2
  have x3 := KA.out.cell 3
  have x4 := KA.out.cell 4
  have x5 := KA.out.cell 5
  have y1 := KB.out.cell 1
  have y2 := KB.out.cell 2
  have y3 := KB.out.cell 3
  have y4 := KB.out.cell 4
  have y5 := KB.out.cell 5
  go_wp2_with fail
  refine (RS.out _ HB.out).mono ?_
  rintro e w1 ⟨rfl, b1⟩
  have ka := KA.out.below b1 (by simp; omega)
  have kb := KB.out.below b1 (by simp)
  have B1 := Lib.hid (btrans HB.out b1)
  clear b1 x1 x2 x3 x4 x5 y1 y2 y3 y4 y5
  have x6 := ka.cell 6
  have x7 := ka.cell 7
  have x8 := ka.cell 8
  have x9 := ka.cell 9
  have x10 := ka.cell 10
  have x11 := ka.cell 11
  have x12 := ka.cell 12
  have x13 := ka.cell 13
  have x14 := ka.cell 14
  have x15 := ka.cell 15
  have x16 := ka.cell 16
  have x17 := ka.cell 17
  have y6 := kb.cell 6
  have y7 := kb.cell 7
  have y8 := kb.cell 8
  have y9 := kb.cell 9
  have y10 := kb.cell 10
  have y11 := kb.cell 11
  have y12 := kb.cell 12
  have y13 := kb.cell 13
  have y14 := kb.cell 14
  have y15 := kb.cell 15
  have y16 := kb.cell 16
  have y17 := kb.cell 17
  clear ka kb
  cases d2
  · go_wp2_with fail
    go_ret
    exact ⟨ret_bool (by rw [HA.out]; rfl), B1.out⟩
  cases d3
  · go_wp2_with fail
    go_ret
    exact ⟨ret_bool (by rw [HA.out]; rfl), B1.out⟩
  cases d4
  · go_wp2_with fail
    go_ret
    exact ⟨ret_bool (by rw [HA.out]; rfl), B1.out⟩
  cases d5
  · go_wp2_with fail
    go_ret
    exact ⟨ret_bool (by rw [HA.out]; rfl), B1.out⟩
  cases d6
  · go_wp2_with fail
    go_ret
    exact ⟨ret_bool (by rw [HA.out]; rfl), B1.out⟩
  go_wp2_with fail
  refine (PS.out _ B1.out).mono ?_
  rintro e w2 ⟨rfl, b2⟩
  go_wp2_with fail
  go_ret
  exact ⟨ret_bool (by rw [HA.out]; rfl), btrans B1.out b2⟩

set_option maxRecDepth 100000 in
theorem rproducer_any (p e : Int) (w : World) : Calls Tryz.prog 41 #[.int .i64 p, .int .i64 e] w fun x w' => x = .returned (.bool (prodB p e)) ∧ w = w' := by
  have HP := Lib.hid (show prodB p e = (decide (1 ≤ p ∧ p ≤ 8) && decide (0 ≤ e ∧ e ≤ 100)) from rfl)
  go_enter Tryz.func41, Tryz.ntmps41
  by_cases h1 : 1 ≤ p
  · by_cases h2 : p ≤ 8
    · by_cases h3 : 0 ≤ e
      · by_cases h4 : e ≤ 100
        · go_wp2_with fail
          go_ret
          exact ⟨ret_bool (by rw [HP.out]; simp [h1, h2, h3, h4]), rfl⟩
        · go_wp2_with fail
          go_ret
          exact ⟨ret_bool (by rw [HP.out]; simp [h4]), rfl⟩
      · go_wp2_with fail
        go_ret
        have h9 : ¬ 0 ≤ e := by omega
        exact ⟨ret_bool (by rw [HP.out]; simp [h9]), rfl⟩
    · go_wp2_with fail
      go_ret
      exact ⟨ret_bool (by rw [HP.out, decide_eq_false (show ¬ (1 ≤ p ∧ p ≤ 8) by omega)]; rfl), rfl⟩
  · go_wp2_with fail
    go_ret
    have h9 : ¬ 1 ≤ p := by omega
    exact ⟨ret_bool (by rw [HP.out]; simp [h9]), rfl⟩
theorem within_any (x l m : Int) (w : World) : Calls Tryz.prog 42 #[.int .i64 x, .int .i64 l, .int .i64 m] w fun e w' => e = .returned (.bool (decide (l ≤ x ∧ x ≤ m))) ∧ w = w' := by
  go_enter Tryz.func42, Tryz.ntmps42
  by_cases h1 : l ≤ x
  · by_cases h2 : x ≤ m
    · go_wp2_with fail
      go_ret
      exact ⟨ret_bool (by simp [h1, h2]), rfl⟩
    · go_wp2_with fail
      go_ret
      exact ⟨ret_bool (by simp [h2]), rfl⟩
  · go_wp2_with fail
    go_ret
    have h9 : ¬ l ≤ x := by omega
    exact ⟨ret_bool (by simp [h9]), rfl⟩
set_option maxRecDepth 100000 in
set_option maxHeartbeats 1000000 in
/-- A row that may be, but for its offset. -/
theorem MayRow_any (r : Rw) (w : World) : Calls Tryz.prog 43 #[(.agg #[.int .i64 r.1, .int .i64 r.2.1, .int .i64 r.2.2.1, .string r.2.2.2.1, .string r.2.2.2.2])] w fun e w' => e = .returned (.bool (rowB (0, r.2.1, r.2.2.1, r.2.2.2.1, r.2.2.2.2))) ∧ Below w.heap.size w w' := by
  have HB := Lib.hid (fun x => bal (Below.refl w.heap.size w) x)
  have W1 := Lib.hid (fun W => within_any r.2.1 1 8 W)
  have W2 := Lib.hid (fun W => within_any r.2.2.1 0 1048575 W)
  have HV := Lib.hid (show rowB (0, r.2.1, r.2.2.1, r.2.2.2.1, r.2.2.2.2) = (decide (1 ≤ r.2.1 ∧ r.2.1 ≤ 8) && (decide (0 ≤ r.2.2.1 ∧ r.2.2.1 ≤ 1048575) && (decide ((r.2.2.2.1.size : Int) ≤ 16) && decide ((r.2.2.2.2.size : Int) ≤ 16)))) by
    have e1 : decide (0 ≤ r.2.2.1 ∧ r.2.2.1 < 1048576) = decide (0 ≤ r.2.2.1 ∧ r.2.2.1 ≤ 1048575) := by rw [decide_eq_decide]; omega
    have e2 : decide (r.2.2.2.1.size ≤ 16) = decide ((r.2.2.2.1.size : Int) ≤ 16) := by rw [decide_eq_decide]; omega
    have e3 : decide (r.2.2.2.2.size ≤ 16) = decide ((r.2.2.2.2.size : Int) ≤ 16) := by rw [decide_eq_decide]; omega
    unfold rowB
    simp only [e1, e2, e3, decide_true, Bool.true_and])
  generalize rowB (0, r.2.1, r.2.2.1, r.2.2.2.1, r.2.2.2.2) = R at *
  generalize decide (1 ≤ r.2.1 ∧ r.2.1 ≤ 8) = d1 at *
  generalize decide (0 ≤ r.2.2.1 ∧ r.2.2.1 ≤ 1048575) = d2 at *
  go_enter Tryz.func43, Tryz.ntmps43
  go_wp2_with fail
  refine (W1.out _).mono ?_
  rintro e w1 ⟨rfl, rfl⟩
  cases d1
  · go_wp2_with fail
    go_ret
    exact ⟨ret_bool (by rw [HV.out]; rfl), HB.out _⟩
  go_wp2_with fail
  refine (W2.out _).mono ?_
  rintro e w2 ⟨rfl, rfl⟩
  cases d2
  · go_wp2_with fail
    go_ret
    exact ⟨ret_bool (by rw [HV.out]; rfl), HB.out _⟩
  generalize hd3 : decide ((r.2.2.2.1.size : Int) ≤ 16) = d3 at *
  generalize hd4 : decide ((r.2.2.2.2.size : Int) ≤ 16) = d4 at *
  cases d3
  · go_wp2_with fail
    go_ret
    exact ⟨ret_bool (by rw [HV.out]; rfl), HB.out _⟩
  cases d4
  · go_wp2_with fail
    go_ret
    exact ⟨ret_bool (by rw [HV.out]; rfl), HB.out _⟩
  go_wp2_with fail
  go_ret
  exact ⟨ret_bool (by rw [HV.out]; rfl), HB.out _⟩
end Go.Proofs.YtckdecodpjfcnaaGreatDoor
namespace Go.Proofs.YtckdecodpjfcnaaGreatDoor
open Go.RowKit

/-- What the document asks of one batch seen, by what stands behind it (the difference as the machine has it). -/
def chkS (s : Sn) (beh : Int) : Bool := okS s && !decide (RowKit.wrap64 (beh - s.2.1) < s.1)
def refSeen (nx : Int) : List Sn → Bool
  | [] => true
  | s :: l => chkS s (behindS nx l) && refSeen nx l
theorem chkS_eq (s : Sn) (beh : Int) : chkS s beh = (!decide (s.1 < 0) && (decide (1 ≤ s.2.1 ∧ s.2.1 ≤ 4) && (decide (-1 ≤ s.2.2 ∧ s.2.2 ≤ 1048576) && !decide (RowKit.wrap64 (beh - s.2.1) < s.1)))) := by
  unfold chkS okS
  have e : decide (0 ≤ s.1) = !decide (s.1 < 0) := by rw [Bool.eq_iff_iff]; simp
  rw [e, Bool.and_assoc, Bool.and_assoc]
theorem seenB_behind {nx : Int} (hn : 0 ≤ nx ∧ nx ≤ 1048576) : ∀ l : List Sn, seenB nx l = true → 0 ≤ behindS nx l ∧ behindS nx l ≤ 1048576
  | [], _ => hn
  | s :: l, h => by
    rw [seenB, Bool.and_eq_true, Bool.and_eq_true, decide_eq_true_eq] at h
    have := seenB_behind hn l h.2
    have h1 := h.1.1
    unfold okS at h1
    simp only [Bool.and_eq_true, decide_eq_true_eq] at h1
    show 0 ≤ s.1 ∧ s.1 ≤ 1048576
    omega
/-- The machine's difference tells no other. -/
theorem refSeen_eq {nx : Int} (hn : 0 ≤ nx ∧ nx ≤ 1048576) : ∀ l : List Sn, refSeen nx l = seenB nx l
  | [] => rfl
  | s :: l => by
    rw [refSeen, seenB, refSeen_eq hn l]
    cases h : seenB nx l
    · rw [Bool.and_false, Bool.and_false]
    rw [Bool.and_true, Bool.and_true]
    have hb := seenB_behind hn l h
    unfold chkS
    cases h1 : okS s
    · rfl
    rw [Bool.true_and, Bool.true_and]
    unfold okS at h1
    simp only [Bool.and_eq_true, decide_eq_true_eq] at h1
    rw [IntWalk.wrap64_in (behindS nx l - s.2.1) (by omega), Bool.eq_iff_iff]
    simp
theorem drop_at {l : List Sn} {k : Nat} {s : Sn} (h : l[k]? = some s) : l.drop k = s :: l.drop (k + 1) := by
  obtain ⟨h1, h2⟩ := List.getElem?_eq_some_iff.1 h
  rw [List.drop_eq_getElem_cons h1, h2]

set_option maxRecDepth 100000 in
set_option maxHeartbeats 4000000 in
theorem rKnown_loop (p : Pd) (D1 : Option Addr) (e1 : Nat) (w : World) (hr : Reads w w.heap.size 3 D1 p.seen.length (cellsN p.seen)) (hp : prodB p.pid p.ep = true) (hn : decide (0 ≤ p.nx ∧ p.nx ≤ 1048576) = true) (hl : p.seen.length ≤ 3) :
    Calls Tryz.prog 18 #[(.agg #[.int .i64 p.pid, .int .i64 p.ep, .int .i64 p.nx, .slice D1 p.seen.length e1])] w fun e w' => e = .returned (.bool (refSeen p.nx p.seen)) ∧ Below w.heap.size w w' := by
  have HB := Lib.hid (bal (Below.refl w.heap.size w) (.cells #[.int .i64 p.pid, .int .i64 p.ep, .int .i64 p.nx, .slice D1 p.seen.length e1] 30))
  have HK := Lib.hid (Blk.new w 30 #[.int .i64 p.pid, .int .i64 p.ep, .int .i64 p.nx, .slice D1 p.seen.length e1])
  have PR := Lib.hid (fun W => show Calls Tryz.prog 41 #[.int .i64 p.pid, .int .i64 p.ep] W (fun e w' => e = .returned (.bool true) ∧ W = w') from by
    have := rproducer_any p.pid p.ep W
    rw [hp] at this
    exact this)
  have WN := Lib.hid (fun W => show Calls Tryz.prog 42 #[.int .i64 p.nx, .int .i64 0, .int .i64 1048576] W (fun e w' => e = .returned (.bool true) ∧ W = w') from by
    have := within_any p.nx 0 1048576 W
    rw [hn] at this
    exact this)
  have WI := Lib.hid (fun (x l m : Int) (W : World) => within_any x l m W)
  have d0 : decide ((3 : Int) < (p.seen.length : Int)) = false := by simp; omega
  have HL := Lib.hid hl
  have HRD := Lib.hid hr
  clear hr hp hn hl
  go_enter Tryz.func18, Tryz.ntmps18
  go_wp2_with fail
  refine (PR.out _).mono ?_
  rintro e w1 ⟨rfl, rfl⟩
  go_wp2_with fail
  refine (WN.out _).mono ?_
  rintro e w1 ⟨rfl, rfl⟩
  have x3 := HK.out.cell 3
  go_wp2_with fail
  go_loopw [3] (fun y wr => ∃ k : Nat, k ≤ p.seen.length ∧ y = .int .i64 k ∧ Below w.heap.size w wr ∧ Blk wr w.heap.size 30 #[.int .i64 p.pid, .int .i64 p.ep, .int .i64 p.nx, .slice D1 p.seen.length e1] ∧ refSeen p.nx (p.seen.drop k) = refSeen p.nx p.seen) (fun y _ => p.seen.length - (intOf y).toNat)
  case atStart => exact ⟨0, Nat.zero_le _, rfl, HB.out, HK.out, rfl⟩
  case round =>
    obtain ⟨k, hk, rfl, hbel, hblk, hrest⟩ := hrel
    have BE := Lib.hid hbel
    have KB := Lib.hid hblk
    have HR := Lib.hid hrest
    have x3 := hblk.cell 3
    have x2 := hblk.cell 2
    have hlt0 := hblk.lt
    clear hbel hblk hrest
    by_cases hlt : k < p.seen.length
    · have d1' : decide ((k : Int) < (p.seen.length : Int)) = true := by simp; omega
      obtain ⟨b1, o1, rfl, hb1, hc1⟩ := (HRD.out.below BE.out).plain3 (by omega)
      obtain ⟨s, hs⟩ : ∃ z, p.seen[k]? = some z := ⟨_, List.getElem?_eq_getElem hlt⟩
      obtain ⟨g1, g2, g3⟩ := hc1 k _ hs
      have i1 : (0 : Int) ≤ (k : Int) := by omega
      have i2 : (k : Int) < (p.seen.length : Int) := by omega
      have HS := Lib.hid (drop_at hs)
      clear hs
      have hbw : b1 < wr.heap.size := by omega
      have cw : IntKind.i64.wrap ((k : Int) + 1) = (k : Int) + 1 := IntWalk.i64_in _ (by have := HL.out; omega)
      by_cases hk1 : k + 1 < p.seen.length
      · have e2 : decide ((k : Int) + 1 < (p.seen.length : Int)) = true := by simp; omega
        have i3 : (0 : Int) ≤ (k : Int) + 1 := by omega
        have i4 : (k : Int) + 1 < (p.seen.length : Int) := by omega
        have n1 : ((k : Int) + 1).toNat = k + 1 := by omega
        obtain ⟨y, hy⟩ : ∃ z, p.seen[k + 1]? = some z := ⟨_, List.getElem?_eq_getElem (by omega)⟩
        obtain ⟨g4, g5, g6⟩ := hc1 (k + 1) _ hy
        have hbe : behindS p.nx (p.seen.drop (k + 1)) = y.1 := by rw [drop_at hy]; rfl
        clear hy g5 g6
        clear hc1
        have HBE := Lib.hid hbe
        clear hbe hk1
        have HS2 := Lib.hid (show refSeen p.nx (p.seen.drop k) = (chkS s y.1 && refSeen p.nx (p.seen.drop (k + 1))) by rw [HS.out, refSeen, HBE.out])
        have HCK := Lib.hid (chkS_eq s y.1)
        have W1 := Lib.hid (fun W => WI.out s.2.1 1 4 W)
        have W2 := Lib.hid (fun W => WI.out s.2.2 (-1) 1048576 W)
        generalize hd0 : decide (s.1 < 0) = d0 at *
        generalize decide (1 ≤ s.2.1 ∧ s.2.1 ≤ 4) = d1 at *
        generalize decide (-1 ≤ s.2.2 ∧ s.2.2 ≤ 1048576) = d2 at *
        generalize hd3 : decide (RowKit.wrap64 (y.1 - s.2.1) < s.1) = d3 at *
        have BN := Lib.hid (bal BE.out (.cells #[.int .i64 s.1, .int .i64 s.2.1, .int .i64 s.2.2] 73))
        have KN := Lib.hid (KB.out.alloc (.cells #[.int .i64 s.1, .int .i64 s.2.1, .int .i64 s.2.2] 73))
        cases d0
        case true =>
          go_wp2_with fail
          go_ret
          exact ⟨ret_bool (by rw [← HR.out, HS2.out, HCK.out]; rfl), BN.out⟩
        go_wp2_with fail
        refine (W1.out _).mono ?_
        rintro e w1 ⟨rfl, rfl⟩
        cases d1
        case false =>
          go_wp2_with fail
          go_ret
          exact ⟨ret_bool (by rw [← HR.out, HS2.out, HCK.out]; rfl), BN.out⟩
        go_wp2_with fail
        refine (W2.out _).mono ?_
        rintro e w1 ⟨rfl, rfl⟩
        cases d2
        case false =>
          go_wp2_with fail
          go_ret
          exact ⟨ret_bool (by rw [← HR.out, HS2.out, HCK.out]; rfl), BN.out⟩
        cases d3
        case true =>
          go_wp2_with fail
          go_ret
          exact ⟨ret_bool (by rw [← HR.out, HS2.out, HCK.out]; rfl), BN.out⟩
        go_wp2_with fail
        go_roundw
        case rel => exact ⟨k + 1, by omega, by first | go_num | (rw [cw]; rfl), BN.out, KN.out, by rw [← HR.out, HS2.out, HCK.out]; rfl⟩
        case measure => simp [intOf]; omega
      · have e2 : decide ((k : Int) + 1 < (p.seen.length : Int)) = false := by simp; omega
        have hbe : behindS p.nx (p.seen.drop (k + 1)) = p.nx := by rw [List.drop_eq_nil_of_le (by omega)]; rfl
        clear hc1
        have HBE := Lib.hid hbe
        clear hbe hk1
        have HS2 := Lib.hid (show refSeen p.nx (p.seen.drop k) = (chkS s p.nx && refSeen p.nx (p.seen.drop (k + 1))) by rw [HS.out, refSeen, HBE.out])
        have HCK := Lib.hid (chkS_eq s p.nx)
        have W1 := Lib.hid (fun W => WI.out s.2.1 1 4 W)
        have W2 := Lib.hid (fun W => WI.out s.2.2 (-1) 1048576 W)
        generalize hd0 : decide (s.1 < 0) = d0 at *
        generalize decide (1 ≤ s.2.1 ∧ s.2.1 ≤ 4) = d1 at *
        generalize decide (-1 ≤ s.2.2 ∧ s.2.2 ≤ 1048576) = d2 at *
        generalize hd3 : decide (RowKit.wrap64 (p.nx - s.2.1) < s.1) = d3 at *
        have BN := Lib.hid (bal BE.out (.cells #[.int .i64 s.1, .int .i64 s.2.1, .int .i64 s.2.2] 73))
        have KN := Lib.hid (KB.out.alloc (.cells #[.int .i64 s.1, .int .i64 s.2.1, .int .i64 s.2.2] 73))
        cases d0
        case true =>
          go_wp2_with fail
          go_ret
          exact ⟨ret_bool (by rw [← HR.out, HS2.out, HCK.out]; rfl), BN.out⟩
        go_wp2_with fail
        refine (W1.out _).mono ?_
        rintro e w1 ⟨rfl, rfl⟩
        cases d1
        case false =>
          go_wp2_with fail
          go_ret
          exact ⟨ret_bool (by rw [← HR.out, HS2.out, HCK.out]; rfl), BN.out⟩
        go_wp2_with fail
        refine (W2.out _).mono ?_
        rintro e w1 ⟨rfl, rfl⟩
        cases d2
        case false =>
          go_wp2_with fail
          go_ret
          exact ⟨ret_bool (by rw [← HR.out, HS2.out, HCK.out]; rfl), BN.out⟩
        cases d3
        case true =>
          go_wp2_with fail
          go_ret
          exact ⟨ret_bool (by rw [← HR.out, HS2.out, HCK.out]; rfl), BN.out⟩
        go_wp2_with fail
        go_roundw
        case rel => exact ⟨k + 1, by omega, by first | go_num | (rw [cw]; rfl), BN.out, KN.out, by rw [← HR.out, HS2.out, HCK.out]; rfl⟩
        case measure => simp [intOf]; omega
    · obtain rfl : k = p.seen.length := by omega
      have d1' : decide ((p.seen.length : Int) < (p.seen.length : Int)) = false := by simp
      have HF := Lib.hid (show refSeen p.nx p.seen = true by rw [← HR.out, List.drop_eq_nil_of_le (Nat.le_refl _)]; rfl)
      go_wp2_with fail
      go_ret
      exact ⟨ret_bool (by rw [HF.out]), BE.out⟩
set_option maxRecDepth 100000 in
set_option maxHeartbeats 1000000 in
theorem rKnown_any (p : Pd) (D1 : Option Addr) (e1 : Nat) (w : World) (hr : Reads w w.heap.size 3 D1 p.seen.length (cellsN p.seen)) :
    Calls Tryz.prog 18 #[(.agg #[.int .i64 p.pid, .int .i64 p.ep, .int .i64 p.nx, .slice D1 p.seen.length e1])] w fun e w' => e = .returned (.bool (knownB p)) ∧ Below w.heap.size w w' := by
  have HB := Lib.hid (bal (Below.refl w.heap.size w) (.cells #[.int .i64 p.pid, .int .i64 p.ep, .int .i64 p.nx, .slice D1 p.seen.length e1] 30))
  have PR := Lib.hid (fun W => rproducer_any p.pid p.ep W)
  have WI := Lib.hid (fun (W : World) => within_any p.nx 0 1048576 W)
  have HV := Lib.hid (show knownB p = (prodB p.pid p.ep && (decide (0 ≤ p.nx ∧ p.nx ≤ 1048576) && (decide (p.seen.length ≤ 3) && seenB p.nx p.seen))) from rfl)
  have HLP := Lib.hid (fun h1 h2 h3 => rKnown_loop p D1 e1 w hr h1 h2 h3)
  cases h1 : prodB p.pid p.ep
  case false =>
    rw [h1] at PR HV
    clear HLP h1
    go_enter Tryz.func18, Tryz.ntmps18
    go_wp2_with fail
    refine (PR.out _).mono ?_
    rintro e w1 ⟨rfl, rfl⟩
    go_wp2_with fail
    go_ret
    exact ⟨ret_bool (by rw [HV.out]; rfl), HB.out⟩
  cases h2 : decide (0 ≤ p.nx ∧ p.nx ≤ 1048576)
  case false =>
    rw [h1] at PR HV
    rw [h2] at WI HV
    clear HLP h1 h2
    go_enter Tryz.func18, Tryz.ntmps18
    go_wp2_with fail
    refine (PR.out _).mono ?_
    rintro e w1 ⟨rfl, rfl⟩
    go_wp2_with fail
    refine (WI.out _).mono ?_
    rintro e w1 ⟨rfl, rfl⟩
    go_wp2_with fail
    go_ret
    exact ⟨ret_bool (by rw [HV.out]; rfl), HB.out⟩
  by_cases h3 : p.seen.length ≤ 3
  · have e := HV.out
    rw [h1, h2, decide_eq_true h3, ← refSeen_eq (by simpa using h2)] at e
    rw [show knownB p = refSeen p.nx p.seen from e]
    exact HLP.out h1 h2 h3
  · rw [h1] at PR HV
    rw [h2] at WI HV
    rw [decide_eq_false h3] at HV
    have d3 : decide ((3 : Int) < (p.seen.length : Int)) = true := by simp; omega
    clear HLP h1 h2 h3 hr
    go_enter Tryz.func18, Tryz.ntmps18
    go_wp2_with fail
    refine (PR.out _).mono ?_
    rintro e w1 ⟨rfl, rfl⟩
    go_wp2_with fail
    refine (WI.out _).mono ?_
    rintro e w1 ⟨rfl, rfl⟩
    go_wp2_with fail
    go_ret
    exact ⟨ret_bool (by rw [HV.out]; rfl), HB.out⟩
end Go.Proofs.YtckdecodpjfcnaaGreatDoor
namespace Go.Proofs.YtckdecodpjfcnaaGreatDoor
open Go.RowKit

/-- An entry with the fields that its kind names alone. -/
def bareEn (x : En) : En :=
  if x.kd = 0 then { baseEn x.kd with b := x.b }
  else if x.kd = 1 then { baseEn x.kd with b := wh x.b.pid x.b.ep, yes := x.yes }
  else if x.kd = 2 then { baseEn x.kd with off := x.off }
  else if x.kd = 3 then { baseEn x.kd with b := x.b, yes := x.yes, nx := if x.yes then x.nx else 0 }
  else if x.kd = 4 then { baseEn x.kd with b := wh x.b.pid x.b.ep, nx := x.nx }
  else if x.kd = 5 then { baseEn x.kd with row := (0, x.row.2.1, x.row.2.2.1, x.row.2.2.2.1, x.row.2.2.2.2) }
  else if x.kd = 6 then { baseEn x.kd with prod := x.prod }
  else baseEn x.kd
/-- What the document asks of a kind's fields. -/
def okR (x : En) : Bool :=
  if x.kd = 0 then mayBt x.b
  else if x.kd = 1 then prodB x.b.pid x.b.ep
  else if x.kd = 2 then seqB x.off
  else if x.kd = 3 then mayBt x.b && (x.b.txn && seqB x.nx)
  else if x.kd = 4 then prodB x.b.pid x.b.ep && seqB x.nx
  else if x.kd = 5 then rowB (0, x.row.2.1, x.row.2.2.1, x.row.2.2.2.1, x.row.2.2.2.2)
  else if x.kd = 6 then knownB x.prod
  else false
theorem mayR_eq (x : En) : (sameEn x (bareEn x) && okR x) = mayEn x := by
  rw [Bool.eq_iff_iff, mayEn, Bool.and_eq_true, Bool.and_eq_true, sameEn_iff, sameEn_iff]
  obtain ⟨kd, ⟨p1, p2, p3, p4, p5⟩, yes, nx, off, ⟨r1, r2, r3, r4, r5⟩, prod⟩ := x
  unfold bareEn okR okEn restEn
  simp only
  by_cases k0 : kd = 0
  · subst k0
    simp [baseEn]
    constructor <;> intro h <;> simp_all
  by_cases k1 : kd = 1
  · subst k1
    simp [baseEn, wh, Bat0]
    constructor <;> intro h <;> simp_all
  by_cases k2 : kd = 2
  · subst k2
    simp [baseEn, Bat0]
    constructor <;> intro h <;> simp_all
  by_cases k3 : kd = 3
  · subst k3
    cases yes
    · simp [baseEn, Bat0]
      constructor
      · rintro ⟨⟨h1, h2, h3, h4⟩, h5, h6, h7⟩
        exact ⟨⟨h6, h5⟩, h1, h2, h3, h4⟩
      · rintro ⟨⟨h6, h5⟩, h1, h2, h3, h4⟩
        exact ⟨⟨h1, h2, h3, h4⟩, h5, h6, by rw [h1]; decide⟩
    · simp [baseEn, Bat0]
      constructor
      · rintro ⟨h1, h5, h6, h7⟩
        exact ⟨⟨⟨h6, h7⟩, h5⟩, h1⟩
      · rintro ⟨⟨⟨h6, h7⟩, h5⟩, h1⟩
        exact ⟨h1, h5, h6, h7⟩
  by_cases k4 : kd = 4
  · subst k4
    cases yes
    · simp [baseEn, wh, Bat0]
      constructor <;> intro h <;> simp_all
    · simp [baseEn, wh, Bat0]
  by_cases k5 : kd = 5
  · subst k5
    simp [baseEn, Bat0, Rw0]
    constructor
    · rintro ⟨⟨h1, h2, h3, h4, h5, h6⟩, h7⟩
      subst h5
      exact ⟨h7, h1, h2, h3, h4, h6⟩
    · rintro ⟨h7, h1, h2, h3, h4, h6⟩
      have h5 : r1 = 0 := by
        unfold rowB at h7
        rw [Bool.and_eq_true, decide_eq_true_eq] at h7
        exact h7.1
      subst h5
      exact ⟨⟨h1, h2, h3, h4, rfl, h6⟩, h7⟩
  by_cases k6 : kd = 6
  · subst k6
    simp [baseEn, Bat0]
    constructor <;> intro h <;> simp_all
  simp [k0, k1, k2, k3, k4, k5, k6]

theorem cells_off {W : World} {b : Nat} {t : TypeId} {cs : List Value} (h : Blk W b t cs.toArray) (o n : Nat) {vs : List Value} (hvs : (cs.drop o).take n = vs) (hn : vs.length = n) : (loadCells ⟨b, o, none⟩ n).run Tryz.prog W = .ok vs.toArray W := by
  have := run_loadCells_list (P := Tryz.prog) W ⟨b, o, none⟩ vs (fun j v hv => by
    rw [Addr.add_mid, h.cell (o + j)]
    subst hvs
    have hj : j < n := by
      have := (List.getElem?_eq_some_iff.1 hv).1
      rw [List.length_take] at this
      omega
    rw [List.getElem?_take_of_lt hj, List.getElem?_drop] at hv
    simpa using hv)
  rw [hn] at this
  exact this
theorem setAll_mid (post : List Value) : ∀ (vs zs pre : List Value), zs.length = vs.length → setAll (pre ++ (zs ++ post)).toArray pre.length vs = (pre ++ (vs ++ post)).toArray
  | [], zs, pre, h => by
    rw [List.length_eq_zero_iff.1 h]
    rfl
  | v :: vs, [], pre, h => by simp at h
  | v :: vs, z :: zs, pre, h => by
    rw [setAll]
    have e : (pre ++ (z :: zs ++ post)).toArray.setIfInBounds pre.length v = ((pre ++ [v]) ++ (zs ++ post)).toArray := by
      rw [List.setIfInBounds_toArray]
      congr 1
      rw [List.set_append_right _ _ (Nat.le_refl _)]
      simp
    rw [e]
    have := setAll_mid post vs zs (pre ++ [v]) (by simpa using h)
    rw [List.length_append, List.length_singleton] at this
    rw [this]
    simp
theorem blk_there_off {W : World} {b : Nat} {t : TypeId} {cs : Array Value} (h : Blk W b t cs) (o n : Nat) (hn : o + n ≤ cs.size) : W.there b o n := fun j hj => by
  refine ⟨?_, h.frozen _⟩
  rw [h.cell (o + j)]
  simp; omega
/-- A part of a struct stored into a block. -/
theorem store_off {W : World} {b : Nat} {t : TypeId} (pre zs post : List Value) (ty : TypeId) (cs : Array Value) (h : Blk W b t (pre ++ (zs ++ post)).toArray) (hz : zs.length = cs.toList.length) (hi : (Tryz.prog.info? ty).map (·.size) = some cs.size) (h1 : cs.all (·.oneCell') = true) :
    ∃ W', (storeVar ty ⟨b, pre.length, none⟩ (.agg cs)).run Tryz.prog W = .ok () W' ∧ Blk W' b t (pre ++ (cs.toList ++ post)).toArray ∧ W'.heap.size = W.heap.size ∧ (∀ n (w : World), n ≤ b → Below n w W → Below n w W') ∧ ∀ g t ds, g ≠ b → Blk W g t ds → Blk W' g t ds :=
  ⟨_, run_storeVar_mid W b pre.length ty cs (blk_there_off h _ _ (by show pre.length + cs.size ≤ (pre ++ (zs ++ post)).length; rw [List.length_append, List.length_append, hz]; simp)) hi h1, (by have := blk_setCells cs.toList pre.length _ _ h; rw [setAll_mid post cs.toList zs pre hz] at this; exact this), size_setCells .., fun n w hb hB => below_setCells hb _ _ _ hB, fun g t ds hg hk => blk_setCells_far hg _ _ _ hk⟩
theorem store_int7 {W : World} {a : Addr} {u : Value} (k : Int) (h : W.cell? a = some u) (hf : W.frozen? a = false) : (storeVar 3 a (.int .i64 k)).run Tryz.prog W = .ok () (W.setCell a (.int .i64 k)) := by
  simp [go_sem, h, hf]
theorem store_bool7 {W : World} {a : Addr} {u : Value} (k : Bool) (h : W.cell? a = some u) (hf : W.frozen? a = false) : (storeVar 4 a (.bool k)).run Tryz.prog W = .ok () (W.setCell a (.bool k)) := by
  simp [go_sem, h, hf]
/-- One cell of a struct stored into a block. -/
theorem store_cell {W : World} {b : Nat} {t : TypeId} (pre : List Value) (z : Value) (post : List Value) (ty : TypeId) (v : Value) (hst : ∀ (W : World) (u : Value), W.cell? ⟨b, pre.length, none⟩ = some u → W.frozen? ⟨b, pre.length, none⟩ = false → (storeVar ty ⟨b, pre.length, none⟩ v).run Tryz.prog W = .ok () (W.setCell ⟨b, pre.length, none⟩ v)) (h : Blk W b t (pre ++ (z :: post)).toArray) :
    ∃ W', (storeVar ty ⟨b, pre.length, none⟩ v).run Tryz.prog W = .ok () W' ∧ Blk W' b t (pre ++ (v :: post)).toArray ∧ W'.heap.size = W.heap.size ∧ (∀ n (w : World), n ≤ b → Below n w W → Below n w W') ∧ ∀ g t ds, g ≠ b → Blk W g t ds → Blk W' g t ds :=
  ⟨_, hst W z (by rw [h.cell]; simp) (h.frozen _), (by
    have := h.set_ pre.length v
    rw [List.setIfInBounds_toArray, List.set_append_right _ _ (Nat.le_refl _)] at this
    simpa using this), by simp, fun n w hb hB => hB.setCell (p := ⟨b, pre.length, none⟩) hb v, fun g t ds hg hk => hk.far (p := ⟨b, pre.length, none⟩) hg v⟩
/-- What bare gives. -/
def BarePost (x : En) (w : World) : Ending → World → Prop := fun e w' => ∃ A9 D9 c9 e9, e = .returned (.agg #[.int .i8 (bareEn x).kd, .int .i64 (bareEn x).b.pid, .int .i64 (bareEn x).b.ep, .int .i64 (bareEn x).b.seq, .bool (bareEn x).b.txn, .slice A9 (bareEn x).b.rs.length c9, .bool (bareEn x).yes, .int .i64 (bareEn x).nx, .int .i64 (bareEn x).off, .int .i64 (bareEn x).row.1, .int .i64 (bareEn x).row.2.1, .int .i64 (bareEn x).row.2.2.1, .string (bareEn x).row.2.2.2.1, .string (bareEn x).row.2.2.2.2, .int .i64 (bareEn x).prod.pid, .int .i64 (bareEn x).prod.ep, .int .i64 (bareEn x).prod.nx, .slice D9 (bareEn x).prod.seen.length e9]) ∧ EnR w' (bareEn x) A9 D9 ∧ Below w.heap.size w w'
section
attribute [-go_sem] loadCells storeVar
set_option maxRecDepth 100000 in
set_option maxHeartbeats 1000000 in
theorem bare_ret (x : En) (A5 D5 : Option Addr) (c5 e5 : Nat) (tmps : Array Value) (b : Nat) (W : World) (h2 : tmps[2]?.getD undef = .pointer (some ⟨b, 0, none⟩)) (hK : Blk W b 32 #[.int .i8 x.kd, .int .i64 x.b.pid, .int .i64 x.b.ep, .int .i64 x.b.seq, .bool x.b.txn, .slice A5 x.b.rs.length c5, .bool x.yes, .int .i64 x.nx, .int .i64 x.off, .int .i64 x.row.1, .int .i64 x.row.2.1, .int .i64 x.row.2.2.1, .string x.row.2.2.2.1, .string x.row.2.2.2.2, .int .i64 x.prod.pid, .int .i64 x.prod.ep, .int .i64 x.prod.nx, .slice D5 x.prod.seen.length e5]) :
    (results Tryz.f39 tmps).run Tryz.prog W = .ok (.agg #[.int .i8 x.kd, .int .i64 x.b.pid, .int .i64 x.b.ep, .int .i64 x.b.seq, .bool x.b.txn, .slice A5 x.b.rs.length c5, .bool x.yes, .int .i64 x.nx, .int .i64 x.off, .int .i64 x.row.1, .int .i64 x.row.2.1, .int .i64 x.row.2.2.1, .string x.row.2.2.2.1, .string x.row.2.2.2.2, .int .i64 x.prod.pid, .int .i64 x.prod.ep, .int .i64 x.prod.nx, .slice D5 x.prod.seen.length e5]) W := by
  have LC := cells_blk hK rfl
  clear hK
  simp [results, Tryz.results39, go_sem, h2, LC]
set_option maxRecDepth 100000 in
set_option maxHeartbeats 4000000 in
theorem bare_0 (x : En) (hk : x.kd = 0) (A1 D1 : Option Addr) (c1 e1 : Nat) (w : World) (hr : EnR w x A1 D1) :
    Calls Tryz.prog 39 #[(.agg #[.int .i8 x.kd, .int .i64 x.b.pid, .int .i64 x.b.ep, .int .i64 x.b.seq, .bool x.b.txn, .slice A1 x.b.rs.length c1, .bool x.yes, .int .i64 x.nx, .int .i64 x.off, .int .i64 x.row.1, .int .i64 x.row.2.1, .int .i64 x.row.2.2.1, .string x.row.2.2.2.1, .string x.row.2.2.2.2, .int .i64 x.prod.pid, .int .i64 x.prod.ep, .int .i64 x.prod.nx, .slice D1 x.prod.seen.length e1])] w (BarePost x w) := by
  have HR := Lib.hid hr
  have HQ := Lib.hid (show bareEn x = { baseEn x.kd with b := x.b } by unfold bareEn; rw [hk]; rfl)
  have cc0 : (x.kd == 0) = true := by rw [hk]; rfl
  have cc1 : (x.kd == 1) = false := by rw [hk]; rfl
  have cc2 : (x.kd == 2) = false := by rw [hk]; rfl
  have cc3 : (x.kd == 3) = false := by rw [hk]; rfl
  have cc4 : (x.kd == 4) = false := by rw [hk]; rfl
  have cc5 : (x.kd == 5) = false := by rw [hk]; rfl
  have cc6 : (x.kd == 6) = false := by rw [hk]; rfl
  obtain ⟨W0, hW0⟩ : ∃ W0, W0 = (w.alloc (.cells #[.int .i8 x.kd, .int .i64 x.b.pid, .int .i64 x.b.ep, .int .i64 x.b.seq, .bool x.b.txn, .slice A1 x.b.rs.length c1, .bool x.yes, .int .i64 x.nx, .int .i64 x.off, .int .i64 x.row.1, .int .i64 x.row.2.1, .int .i64 x.row.2.2.1, .string x.row.2.2.2.1, .string x.row.2.2.2.2, .int .i64 x.prod.pid, .int .i64 x.prod.ep, .int .i64 x.prod.nx, .slice D1 x.prod.seen.length e1] 32)).alloc (.cells #[.int .i8 0, .int .i64 0, .int .i64 0, .int .i64 0, .bool false, .slice none 0 0, .bool false, .int .i64 0, .int .i64 0, .int .i64 0, .int .i64 0, .int .i64 0, .string ⟨#[]⟩, .string ⟨#[]⟩, .int .i64 0, .int .i64 0, .int .i64 0, .slice none 0 0] 32) := ⟨_, rfl⟩
  have KX0 : Blk W0 w.heap.size 32 #[.int .i8 x.kd, .int .i64 x.b.pid, .int .i64 x.b.ep, .int .i64 x.b.seq, .bool x.b.txn, .slice A1 x.b.rs.length c1, .bool x.yes, .int .i64 x.nx, .int .i64 x.off, .int .i64 x.row.1, .int .i64 x.row.2.1, .int .i64 x.row.2.2.1, .string x.row.2.2.2.1, .string x.row.2.2.2.2, .int .i64 x.prod.pid, .int .i64 x.prod.ep, .int .i64 x.prod.nx, .slice D1 x.prod.seen.length e1] := by rw [hW0]; exact (Blk.new _ _ _).alloc _
  have KR0 : Blk W0 (w.heap.size + 1) 32 ezero := by rw [hW0]; exact blk_new _ _ _ (by simp)
  have b0 : Below w.heap.size w W0 := by rw [hW0]; exact bal (bal (Below.refl _ _) _) _
  have hs0 : W0.heap.size = w.heap.size + 2 := by rw [hW0]; simp
  obtain ⟨W1, st1, kO, bb⟩ := fresh_en W0 #[Value.int .i8 x.kd, Value.int .i64 0, Value.int .i64 0, Value.int .i64 0, Value.bool false, Value.slice none 0 0, Value.bool false, Value.int .i64 0, Value.int .i64 0, Value.int .i64 0, Value.int .i64 0, Value.int .i64 0, Value.string ⟨#[]⟩, Value.string ⟨#[]⟩, Value.int .i64 0, Value.int .i64 0, Value.int .i64 0, Value.slice none 0 0] rfl (by simp [Value.oneCell'])
  have KX := KX0.below bb KX0.lt
  have KR := KR0.below bb KR0.lt
  have b1 := btrans b0 (bb.mono (by omega))
  have HW0 := Lib.hid hW0
  have x0 := KX0.cell 0
  have ST1 := Lib.hid st1
  have KX1 := Lib.hid KX
  have KR1 := Lib.hid KR
  have KO1 := Lib.hid kO
  have B1 := Lib.hid b1
  have HS0 := Lib.hid hs0
  have g1 : w.heap.size ≠ W0.heap.size := by omega
  have g2 : w.heap.size + 1 ≠ W0.heap.size := by omega
  have g3 : w.heap.size ≤ W0.heap.size := by omega
  have HG := Lib.hid (And.intro g1 (And.intro g2 g3))
  clear hW0 KX0 KR0 b0 hs0 st1 kO bb KX KR b1 g1 g2 g3 hr hk
  go_enter Tryz.func39, Tryz.ntmps39
  go_upto_region 1 with (fail)
  rw [← HW0.out]
  have st1 := ST1.out
  go_upto_region 2 with (fail)
  clear st1 x0
  have x0 := KX1.out.cell 0
  have LB := cells_off KX1.out 1 5 rfl rfl
  obtain ⟨W2, st, kO, _, fb, fk⟩ := store_off ([Value.int .i8 x.kd] : List Value) ([Value.int .i64 0, Value.int .i64 0, Value.int .i64 0, Value.bool false, Value.slice none 0 0] : List Value) ([Value.bool false, Value.int .i64 0, Value.int .i64 0, Value.int .i64 0, Value.int .i64 0, Value.int .i64 0, Value.string ⟨#[]⟩, Value.string ⟨#[]⟩, Value.int .i64 0, Value.int .i64 0, Value.int .i64 0, Value.slice none 0 0] : List Value) 25 (#[Value.int .i64 x.b.pid, Value.int .i64 x.b.ep, Value.int .i64 x.b.seq, Value.bool x.b.txn, Value.slice A1 x.b.rs.length c1] : Array Value) (show Blk W1 W0.heap.size 32 (([Value.int .i8 x.kd] : List Value) ++ ([Value.int .i64 0, Value.int .i64 0, Value.int .i64 0, Value.bool false, Value.slice none 0 0] ++ [Value.bool false, Value.int .i64 0, Value.int .i64 0, Value.int .i64 0, Value.int .i64 0, Value.int .i64 0, Value.string ⟨#[]⟩, Value.string ⟨#[]⟩, Value.int .i64 0, Value.int .i64 0, Value.int .i64 0, Value.slice none 0 0])).toArray from KO1.out) rfl (by kernel_rfl) (by simp [Value.oneCell'])
  have st2 : _ := st
  have KX2 := Lib.hid (fk _ _ _ HG.out.1 KX1.out)
  have KR2 := Lib.hid (fk _ _ _ HG.out.2.1 KR1.out)
  have B2 := Lib.hid (fb _ w HG.out.2.2 B1.out)
  have KO2 := Lib.hid (show Blk W2 W0.heap.size 32 #[Value.int .i8 x.kd, Value.int .i64 x.b.pid, Value.int .i64 x.b.ep, Value.int .i64 x.b.seq, Value.bool x.b.txn, Value.slice A1 x.b.rs.length c1, Value.bool false, Value.int .i64 0, Value.int .i64 0, Value.int .i64 0, Value.int .i64 0, Value.int .i64 0, Value.string ⟨#[]⟩, Value.string ⟨#[]⟩, Value.int .i64 0, Value.int .i64 0, Value.int .i64 0, Value.slice none 0 0] from kO)
  clear st kO fb fk
  simp only [List.length_cons, List.length_nil, Nat.reduceAdd, Nat.zero_add] at st2
  go_upto_region 23 with (fail)
  clear st2 LB 
  have LO := cells_blk KO2.out rfl
  obtain ⟨W9, st9, kw, fb, _⟩ := store_blk2 (cs := #[Value.int .i8 x.kd, Value.int .i64 x.b.pid, Value.int .i64 x.b.ep, Value.int .i64 x.b.seq, Value.bool x.b.txn, Value.slice A1 x.b.rs.length c1, Value.bool false, Value.int .i64 0, Value.int .i64 0, Value.int .i64 0, Value.int .i64 0, Value.int .i64 0, Value.string ⟨#[]⟩, Value.string ⟨#[]⟩, Value.int .i64 0, Value.int .i64 0, Value.int .i64 0, Value.slice none 0 0]) KR2.out rfl rfl (by simp [Value.oneCell'])
  have BW := Lib.hid (fb _ w (Nat.le_succ _) B2.out)
  have KW := Lib.hid kw
  clear kw fb
  go_wp2_with fail
  have kq : Blk W9 (w.heap.size + 1) 32 #[.int .i8 (bareEn x).kd, .int .i64 (bareEn x).b.pid, .int .i64 (bareEn x).b.ep, .int .i64 (bareEn x).b.seq, .bool (bareEn x).b.txn, .slice A1 (bareEn x).b.rs.length c1, .bool (bareEn x).yes, .int .i64 (bareEn x).nx, .int .i64 (bareEn x).off, .int .i64 (bareEn x).row.1, .int .i64 (bareEn x).row.2.1, .int .i64 (bareEn x).row.2.2.1, .string (bareEn x).row.2.2.2.1, .string (bareEn x).row.2.2.2.2, .int .i64 (bareEn x).prod.pid, .int .i64 (bareEn x).prod.ep, .int .i64 (bareEn x).prod.nx, .slice none (bareEn x).prod.seen.length 0] := by rw [HQ.out]; exact KW.out
  refine bodyPost_ret (bare_ret (bareEn x) A1 none c1 0 _ (w.heap.size + 1) _ rfl kq) rfl ?_
  refine ⟨A1, none, c1, 0, rfl, ?_, BW.out⟩
  rw [HQ.out]
  exact ⟨(HR.out.up BW.out).1, Reads.none_, HR.out.2.2.1, Nat.zero_le _⟩
set_option maxRecDepth 100000 in
set_option maxHeartbeats 4000000 in
theorem bare_1 (x : En) (hk : x.kd = 1) (A1 D1 : Option Addr) (c1 e1 : Nat) (w : World) (hr : EnR w x A1 D1) :
    Calls Tryz.prog 39 #[(.agg #[.int .i8 x.kd, .int .i64 x.b.pid, .int .i64 x.b.ep, .int .i64 x.b.seq, .bool x.b.txn, .slice A1 x.b.rs.length c1, .bool x.yes, .int .i64 x.nx, .int .i64 x.off, .int .i64 x.row.1, .int .i64 x.row.2.1, .int .i64 x.row.2.2.1, .string x.row.2.2.2.1, .string x.row.2.2.2.2, .int .i64 x.prod.pid, .int .i64 x.prod.ep, .int .i64 x.prod.nx, .slice D1 x.prod.seen.length e1])] w (BarePost x w) := by
  have HR := Lib.hid hr
  have HQ := Lib.hid (show bareEn x = { baseEn x.kd with b := wh x.b.pid x.b.ep, yes := x.yes } by unfold bareEn; rw [hk]; rfl)
  have cc0 : (x.kd == 0) = false := by rw [hk]; rfl
  have cc1 : (x.kd == 1) = true := by rw [hk]; rfl
  have cc2 : (x.kd == 2) = false := by rw [hk]; rfl
  have cc3 : (x.kd == 3) = false := by rw [hk]; rfl
  have cc4 : (x.kd == 4) = false := by rw [hk]; rfl
  have cc5 : (x.kd == 5) = false := by rw [hk]; rfl
  have cc6 : (x.kd == 6) = false := by rw [hk]; rfl
  obtain ⟨W0, hW0⟩ : ∃ W0, W0 = (w.alloc (.cells #[.int .i8 x.kd, .int .i64 x.b.pid, .int .i64 x.b.ep, .int .i64 x.b.seq, .bool x.b.txn, .slice A1 x.b.rs.length c1, .bool x.yes, .int .i64 x.nx, .int .i64 x.off, .int .i64 x.row.1, .int .i64 x.row.2.1, .int .i64 x.row.2.2.1, .string x.row.2.2.2.1, .string x.row.2.2.2.2, .int .i64 x.prod.pid, .int .i64 x.prod.ep, .int .i64 x.prod.nx, .slice D1 x.prod.seen.length e1] 32)).alloc (.cells #[.int .i8 0, .int .i64 0, .int .i64 0, .int .i64 0, .bool false, .slice none 0 0, .bool false, .int .i64 0, .int .i64 0, .int .i64 0, .int .i64 0, .int .i64 0, .string ⟨#[]⟩, .string ⟨#[]⟩, .int .i64 0, .int .i64 0, .int .i64 0, .slice none 0 0] 32) := ⟨_, rfl⟩
  have KX0 : Blk W0 w.heap.size 32 #[.int .i8 x.kd, .int .i64 x.b.pid, .int .i64 x.b.ep, .int .i64 x.b.seq, .bool x.b.txn, .slice A1 x.b.rs.length c1, .bool x.yes, .int .i64 x.nx, .int .i64 x.off, .int .i64 x.row.1, .int .i64 x.row.2.1, .int .i64 x.row.2.2.1, .string x.row.2.2.2.1, .string x.row.2.2.2.2, .int .i64 x.prod.pid, .int .i64 x.prod.ep, .int .i64 x.prod.nx, .slice D1 x.prod.seen.length e1] := by rw [hW0]; exact (Blk.new _ _ _).alloc _
  have KR0 : Blk W0 (w.heap.size + 1) 32 ezero := by rw [hW0]; exact blk_new _ _ _ (by simp)
  have b0 : Below w.heap.size w W0 := by rw [hW0]; exact bal (bal (Below.refl _ _) _) _
  have hs0 : W0.heap.size = w.heap.size + 2 := by rw [hW0]; simp
  obtain ⟨W1, st1, kO, bb⟩ := fresh_en W0 #[Value.int .i8 x.kd, Value.int .i64 0, Value.int .i64 0, Value.int .i64 0, Value.bool false, Value.slice none 0 0, Value.bool false, Value.int .i64 0, Value.int .i64 0, Value.int .i64 0, Value.int .i64 0, Value.int .i64 0, Value.string ⟨#[]⟩, Value.string ⟨#[]⟩, Value.int .i64 0, Value.int .i64 0, Value.int .i64 0, Value.slice none 0 0] rfl (by simp [Value.oneCell'])
  have KX := KX0.below bb KX0.lt
  have KR := KR0.below bb KR0.lt
  have b1 := btrans b0 (bb.mono (by omega))
  have HW0 := Lib.hid hW0
  have x0 := KX0.cell 0
  have ST1 := Lib.hid st1
  have KX1 := Lib.hid KX
  have KR1 := Lib.hid KR
  have KO1 := Lib.hid kO
  have B1 := Lib.hid b1
  have HS0 := Lib.hid hs0
  have g1 : w.heap.size ≠ W0.heap.size := by omega
  have g2 : w.heap.size + 1 ≠ W0.heap.size := by omega
  have g3 : w.heap.size ≤ W0.heap.size := by omega
  have HG := Lib.hid (And.intro g1 (And.intro g2 g3))
  clear hW0 KX0 KR0 b0 hs0 st1 kO bb KX KR b1 g1 g2 g3 hr hk
  go_enter Tryz.func39, Tryz.ntmps39
  go_upto_region 1 with (fail)
  rw [← HW0.out]
  have st1 := ST1.out
  go_upto_region 2 with (fail)
  clear st1 x0
  have x0 := KX1.out.cell 0
  have x1 := KX1.out.cell 1
  have x2 := KX1.out.cell 2
  obtain ⟨W2, st, kO, _, fb, fk⟩ := store_off ([Value.int .i8 x.kd] : List Value) ([Value.int .i64 0, Value.int .i64 0, Value.int .i64 0, Value.bool false, Value.slice none 0 0] : List Value) ([Value.bool false, Value.int .i64 0, Value.int .i64 0, Value.int .i64 0, Value.int .i64 0, Value.int .i64 0, Value.string ⟨#[]⟩, Value.string ⟨#[]⟩, Value.int .i64 0, Value.int .i64 0, Value.int .i64 0, Value.slice none 0 0] : List Value) 25 (#[Value.int .i64 x.b.pid, Value.int .i64 x.b.ep, Value.int .i64 0, Value.bool false, Value.slice none 0 0] : Array Value) (show Blk W1 W0.heap.size 32 (([Value.int .i8 x.kd] : List Value) ++ ([Value.int .i64 0, Value.int .i64 0, Value.int .i64 0, Value.bool false, Value.slice none 0 0] ++ [Value.bool false, Value.int .i64 0, Value.int .i64 0, Value.int .i64 0, Value.int .i64 0, Value.int .i64 0, Value.string ⟨#[]⟩, Value.string ⟨#[]⟩, Value.int .i64 0, Value.int .i64 0, Value.int .i64 0, Value.slice none 0 0])).toArray from KO1.out) rfl (by kernel_rfl) (by simp [Value.oneCell'])
  have st2 : _ := st
  have KX2 := Lib.hid (fk _ _ _ HG.out.1 KX1.out)
  have KR2 := Lib.hid (fk _ _ _ HG.out.2.1 KR1.out)
  have B2 := Lib.hid (fb _ w HG.out.2.2 B1.out)
  have KO2 := Lib.hid (show Blk W2 W0.heap.size 32 #[Value.int .i8 x.kd, Value.int .i64 x.b.pid, Value.int .i64 x.b.ep, Value.int .i64 0, Value.bool false, Value.slice none 0 0, Value.bool false, Value.int .i64 0, Value.int .i64 0, Value.int .i64 0, Value.int .i64 0, Value.int .i64 0, Value.string ⟨#[]⟩, Value.string ⟨#[]⟩, Value.int .i64 0, Value.int .i64 0, Value.int .i64 0, Value.slice none 0 0] from kO)
  clear st kO fb fk
  simp only [List.length_cons, List.length_nil, Nat.reduceAdd, Nat.zero_add] at st2
  go_upto_region 7 with (fail)
  clear st2 x1 x2
  have x6 := KX2.out.cell 6
  obtain ⟨W3, st, kO, _, fb, fk⟩ := store_cell ([Value.int .i8 x.kd, Value.int .i64 x.b.pid, Value.int .i64 x.b.ep, Value.int .i64 0, Value.bool false, Value.slice none 0 0] : List Value) (Value.bool false) ([Value.int .i64 0, Value.int .i64 0, Value.int .i64 0, Value.int .i64 0, Value.int .i64 0, Value.string ⟨#[]⟩, Value.string ⟨#[]⟩, Value.int .i64 0, Value.int .i64 0, Value.int .i64 0, Value.slice none 0 0] : List Value) 4 (Value.bool x.yes) (fun W u h1 h2 => store_bool7 (x.yes) h1 h2) (show Blk W2 W0.heap.size 32 (([Value.int .i8 x.kd, Value.int .i64 x.b.pid, Value.int .i64 x.b.ep, Value.int .i64 0, Value.bool false, Value.slice none 0 0] : List Value) ++ ((Value.bool false) :: [Value.int .i64 0, Value.int .i64 0, Value.int .i64 0, Value.int .i64 0, Value.int .i64 0, Value.string ⟨#[]⟩, Value.string ⟨#[]⟩, Value.int .i64 0, Value.int .i64 0, Value.int .i64 0, Value.slice none 0 0])).toArray from KO2.out)
  have st3 : _ := st
  have KX3 := Lib.hid (fk _ _ _ HG.out.1 KX2.out)
  have KR3 := Lib.hid (fk _ _ _ HG.out.2.1 KR2.out)
  have B3 := Lib.hid (fb _ w HG.out.2.2 B2.out)
  have KO3 := Lib.hid (show Blk W3 W0.heap.size 32 #[Value.int .i8 x.kd, Value.int .i64 x.b.pid, Value.int .i64 x.b.ep, Value.int .i64 0, Value.bool false, Value.slice none 0 0, Value.bool x.yes, Value.int .i64 0, Value.int .i64 0, Value.int .i64 0, Value.int .i64 0, Value.int .i64 0, Value.string ⟨#[]⟩, Value.string ⟨#[]⟩, Value.int .i64 0, Value.int .i64 0, Value.int .i64 0, Value.slice none 0 0] from kO)
  clear st kO fb fk
  simp only [List.length_cons, List.length_nil, Nat.reduceAdd, Nat.zero_add] at st3
  go_upto_region 23 with (fail)
  clear st3 x6
  have LO := cells_blk KO3.out rfl
  obtain ⟨W9, st9, kw, fb, _⟩ := store_blk2 (cs := #[Value.int .i8 x.kd, Value.int .i64 x.b.pid, Value.int .i64 x.b.ep, Value.int .i64 0, Value.bool false, Value.slice none 0 0, Value.bool x.yes, Value.int .i64 0, Value.int .i64 0, Value.int .i64 0, Value.int .i64 0, Value.int .i64 0, Value.string ⟨#[]⟩, Value.string ⟨#[]⟩, Value.int .i64 0, Value.int .i64 0, Value.int .i64 0, Value.slice none 0 0]) KR3.out rfl rfl (by simp [Value.oneCell'])
  have BW := Lib.hid (fb _ w (Nat.le_succ _) B3.out)
  have KW := Lib.hid kw
  clear kw fb
  go_wp2_with fail
  have kq : Blk W9 (w.heap.size + 1) 32 #[.int .i8 (bareEn x).kd, .int .i64 (bareEn x).b.pid, .int .i64 (bareEn x).b.ep, .int .i64 (bareEn x).b.seq, .bool (bareEn x).b.txn, .slice none (bareEn x).b.rs.length 0, .bool (bareEn x).yes, .int .i64 (bareEn x).nx, .int .i64 (bareEn x).off, .int .i64 (bareEn x).row.1, .int .i64 (bareEn x).row.2.1, .int .i64 (bareEn x).row.2.2.1, .string (bareEn x).row.2.2.2.1, .string (bareEn x).row.2.2.2.2, .int .i64 (bareEn x).prod.pid, .int .i64 (bareEn x).prod.ep, .int .i64 (bareEn x).prod.nx, .slice none (bareEn x).prod.seen.length 0] := by rw [HQ.out]; exact KW.out
  refine bodyPost_ret (bare_ret (bareEn x) none none 0 0 _ (w.heap.size + 1) _ rfl kq) rfl ?_
  refine ⟨none, none, 0, 0, rfl, ?_, BW.out⟩
  rw [HQ.out]
  exact ⟨Reads.none_, Reads.none_, Nat.zero_le _, Nat.zero_le _⟩
set_option maxRecDepth 100000 in
set_option maxHeartbeats 4000000 in
theorem bare_2 (x : En) (hk : x.kd = 2) (A1 D1 : Option Addr) (c1 e1 : Nat) (w : World) (hr : EnR w x A1 D1) :
    Calls Tryz.prog 39 #[(.agg #[.int .i8 x.kd, .int .i64 x.b.pid, .int .i64 x.b.ep, .int .i64 x.b.seq, .bool x.b.txn, .slice A1 x.b.rs.length c1, .bool x.yes, .int .i64 x.nx, .int .i64 x.off, .int .i64 x.row.1, .int .i64 x.row.2.1, .int .i64 x.row.2.2.1, .string x.row.2.2.2.1, .string x.row.2.2.2.2, .int .i64 x.prod.pid, .int .i64 x.prod.ep, .int .i64 x.prod.nx, .slice D1 x.prod.seen.length e1])] w (BarePost x w) := by
  have HR := Lib.hid hr
  have HQ := Lib.hid (show bareEn x = { baseEn x.kd with off := x.off } by unfold bareEn; rw [hk]; rfl)
  have cc0 : (x.kd == 0) = false := by rw [hk]; rfl
  have cc1 : (x.kd == 1) = false := by rw [hk]; rfl
  have cc2 : (x.kd == 2) = true := by rw [hk]; rfl
  have cc3 : (x.kd == 3) = false := by rw [hk]; rfl
  have cc4 : (x.kd == 4) = false := by rw [hk]; rfl
  have cc5 : (x.kd == 5) = false := by rw [hk]; rfl
  have cc6 : (x.kd == 6) = false := by rw [hk]; rfl
  obtain ⟨W0, hW0⟩ : ∃ W0, W0 = (w.alloc (.cells #[.int .i8 x.kd, .int .i64 x.b.pid, .int .i64 x.b.ep, .int .i64 x.b.seq, .bool x.b.txn, .slice A1 x.b.rs.length c1, .bool x.yes, .int .i64 x.nx, .int .i64 x.off, .int .i64 x.row.1, .int .i64 x.row.2.1, .int .i64 x.row.2.2.1, .string x.row.2.2.2.1, .string x.row.2.2.2.2, .int .i64 x.prod.pid, .int .i64 x.prod.ep, .int .i64 x.prod.nx, .slice D1 x.prod.seen.length e1] 32)).alloc (.cells #[.int .i8 0, .int .i64 0, .int .i64 0, .int .i64 0, .bool false, .slice none 0 0, .bool false, .int .i64 0, .int .i64 0, .int .i64 0, .int .i64 0, .int .i64 0, .string ⟨#[]⟩, .string ⟨#[]⟩, .int .i64 0, .int .i64 0, .int .i64 0, .slice none 0 0] 32) := ⟨_, rfl⟩
  have KX0 : Blk W0 w.heap.size 32 #[.int .i8 x.kd, .int .i64 x.b.pid, .int .i64 x.b.ep, .int .i64 x.b.seq, .bool x.b.txn, .slice A1 x.b.rs.length c1, .bool x.yes, .int .i64 x.nx, .int .i64 x.off, .int .i64 x.row.1, .int .i64 x.row.2.1, .int .i64 x.row.2.2.1, .string x.row.2.2.2.1, .string x.row.2.2.2.2, .int .i64 x.prod.pid, .int .i64 x.prod.ep, .int .i64 x.prod.nx, .slice D1 x.prod.seen.length e1] := by rw [hW0]; exact (Blk.new _ _ _).alloc _
  have KR0 : Blk W0 (w.heap.size + 1) 32 ezero := by rw [hW0]; exact blk_new _ _ _ (by simp)
  have b0 : Below w.heap.size w W0 := by rw [hW0]; exact bal (bal (Below.refl _ _) _) _
  have hs0 : W0.heap.size = w.heap.size + 2 := by rw [hW0]; simp
  obtain ⟨W1, st1, kO, bb⟩ := fresh_en W0 #[Value.int .i8 x.kd, Value.int .i64 0, Value.int .i64 0, Value.int .i64 0, Value.bool false, Value.slice none 0 0, Value.bool false, Value.int .i64 0, Value.int .i64 0, Value.int .i64 0, Value.int .i64 0, Value.int .i64 0, Value.string ⟨#[]⟩, Value.string ⟨#[]⟩, Value.int .i64 0, Value.int .i64 0, Value.int .i64 0, Value.slice none 0 0] rfl (by simp [Value.oneCell'])
  have KX := KX0.below bb KX0.lt
  have KR := KR0.below bb KR0.lt
  have b1 := btrans b0 (bb.mono (by omega))
  have HW0 := Lib.hid hW0
  have x0 := KX0.cell 0
  have ST1 := Lib.hid st1
  have KX1 := Lib.hid KX
  have KR1 := Lib.hid KR
  have KO1 := Lib.hid kO
  have B1 := Lib.hid b1
  have HS0 := Lib.hid hs0
  have g1 : w.heap.size ≠ W0.heap.size := by omega
  have g2 : w.heap.size + 1 ≠ W0.heap.size := by omega
  have g3 : w.heap.size ≤ W0.heap.size := by omega
  have HG := Lib.hid (And.intro g1 (And.intro g2 g3))
  clear hW0 KX0 KR0 b0 hs0 st1 kO bb KX KR b1 g1 g2 g3 hr hk
  go_enter Tryz.func39, Tryz.ntmps39
  go_upto_region 1 with (fail)
  rw [← HW0.out]
  have st1 := ST1.out
  go_upto_region 2 with (fail)
  clear st1 x0
  have x0 := KX1.out.cell 0
  have x8 := KX1.out.cell 8
  obtain ⟨W2, st, kO, _, fb, fk⟩ := store_cell ([Value.int .i8 x.kd, Value.int .i64 0, Value.int .i64 0, Value.int .i64 0, Value.bool false, Value.slice none 0 0, Value.bool false, Value.int .i64 0] : List Value) (Value.int .i64 0) ([Value.int .i64 0, Value.int .i64 0, Value.int .i64 0, Value.string ⟨#[]⟩, Value.string ⟨#[]⟩, Value.int .i64 0, Value.int .i64 0, Value.int .i64 0, Value.slice none 0 0] : List Value) 3 (Value.int .i64 x.off) (fun W u h1 h2 => store_int7 (x.off) h1 h2) (show Blk W1 W0.heap.size 32 (([Value.int .i8 x.kd, Value.int .i64 0, Value.int .i64 0, Value.int .i64 0, Value.bool false, Value.slice none 0 0, Value.bool false, Value.int .i64 0] : List Value) ++ ((Value.int .i64 0) :: [Value.int .i64 0, Value.int .i64 0, Value.int .i64 0, Value.string ⟨#[]⟩, Value.string ⟨#[]⟩, Value.int .i64 0, Value.int .i64 0, Value.int .i64 0, Value.slice none 0 0])).toArray from KO1.out)
  have st2 : _ := st
  have KX2 := Lib.hid (fk _ _ _ HG.out.1 KX1.out)
  have KR2 := Lib.hid (fk _ _ _ HG.out.2.1 KR1.out)
  have B2 := Lib.hid (fb _ w HG.out.2.2 B1.out)
  have KO2 := Lib.hid (show Blk W2 W0.heap.size 32 #[Value.int .i8 x.kd, Value.int .i64 0, Value.int .i64 0, Value.int .i64 0, Value.bool false, Value.slice none 0 0, Value.bool false, Value.int .i64 0, Value.int .i64 x.off, Value.int .i64 0, Value.int .i64 0, Value.int .i64 0, Value.string ⟨#[]⟩, Value.string ⟨#[]⟩, Value.int .i64 0, Value.int .i64 0, Value.int .i64 0, Value.slice none 0 0] from kO)
  clear st kO fb fk
  simp only [List.length_cons, List.length_nil, Nat.reduceAdd, Nat.zero_add] at st2
  go_upto_region 23 with (fail)
  clear st2 x8
  have LO := cells_blk KO2.out rfl
  obtain ⟨W9, st9, kw, fb, _⟩ := store_blk2 (cs := #[Value.int .i8 x.kd, Value.int .i64 0, Value.int .i64 0, Value.int .i64 0, Value.bool false, Value.slice none 0 0, Value.bool false, Value.int .i64 0, Value.int .i64 x.off, Value.int .i64 0, Value.int .i64 0, Value.int .i64 0, Value.string ⟨#[]⟩, Value.string ⟨#[]⟩, Value.int .i64 0, Value.int .i64 0, Value.int .i64 0, Value.slice none 0 0]) KR2.out rfl rfl (by simp [Value.oneCell'])
  have BW := Lib.hid (fb _ w (Nat.le_succ _) B2.out)
  have KW := Lib.hid kw
  clear kw fb
  go_wp2_with fail
  have kq : Blk W9 (w.heap.size + 1) 32 #[.int .i8 (bareEn x).kd, .int .i64 (bareEn x).b.pid, .int .i64 (bareEn x).b.ep, .int .i64 (bareEn x).b.seq, .bool (bareEn x).b.txn, .slice none (bareEn x).b.rs.length 0, .bool (bareEn x).yes, .int .i64 (bareEn x).nx, .int .i64 (bareEn x).off, .int .i64 (bareEn x).row.1, .int .i64 (bareEn x).row.2.1, .int .i64 (bareEn x).row.2.2.1, .string (bareEn x).row.2.2.2.1, .string (bareEn x).row.2.2.2.2, .int .i64 (bareEn x).prod.pid, .int .i64 (bareEn x).prod.ep, .int .i64 (bareEn x).prod.nx, .slice none (bareEn x).prod.seen.length 0] := by rw [HQ.out]; exact KW.out
  refine bodyPost_ret (bare_ret (bareEn x) none none 0 0 _ (w.heap.size + 1) _ rfl kq) rfl ?_
  refine ⟨none, none, 0, 0, rfl, ?_, BW.out⟩
  rw [HQ.out]
  exact ⟨Reads.none_, Reads.none_, Nat.zero_le _, Nat.zero_le _⟩
set_option maxRecDepth 100000 in
set_option maxHeartbeats 4000000 in
theorem bare_3f (x : En) (hk : x.kd = 3) (hy : x.yes = false) (A1 D1 : Option Addr) (c1 e1 : Nat) (w : World) (hr : EnR w x A1 D1) :
    Calls Tryz.prog 39 #[(.agg #[.int .i8 x.kd, .int .i64 x.b.pid, .int .i64 x.b.ep, .int .i64 x.b.seq, .bool x.b.txn, .slice A1 x.b.rs.length c1, .bool x.yes, .int .i64 x.nx, .int .i64 x.off, .int .i64 x.row.1, .int .i64 x.row.2.1, .int .i64 x.row.2.2.1, .string x.row.2.2.2.1, .string x.row.2.2.2.2, .int .i64 x.prod.pid, .int .i64 x.prod.ep, .int .i64 x.prod.nx, .slice D1 x.prod.seen.length e1])] w (BarePost x w) := by
  have HR := Lib.hid hr
  have HQ := Lib.hid (show bareEn x = { baseEn x.kd with b := x.b, yes := x.yes } by unfold bareEn; rw [hk, hy]; rfl)
  have cc0 : (x.kd == 0) = false := by rw [hk]; rfl
  have cc1 : (x.kd == 1) = false := by rw [hk]; rfl
  have cc2 : (x.kd == 2) = false := by rw [hk]; rfl
  have cc3 : (x.kd == 3) = true := by rw [hk]; rfl
  have cc4 : (x.kd == 4) = false := by rw [hk]; rfl
  have cc5 : (x.kd == 5) = false := by rw [hk]; rfl
  have cc6 : (x.kd == 6) = false := by rw [hk]; rfl
  obtain ⟨W0, hW0⟩ : ∃ W0, W0 = (w.alloc (.cells #[.int .i8 x.kd, .int .i64 x.b.pid, .int .i64 x.b.ep, .int .i64 x.b.seq, .bool x.b.txn, .slice A1 x.b.rs.length c1, .bool x.yes, .int .i64 x.nx, .int .i64 x.off, .int .i64 x.row.1, .int .i64 x.row.2.1, .int .i64 x.row.2.2.1, .string x.row.2.2.2.1, .string x.row.2.2.2.2, .int .i64 x.prod.pid, .int .i64 x.prod.ep, .int .i64 x.prod.nx, .slice D1 x.prod.seen.length e1] 32)).alloc (.cells #[.int .i8 0, .int .i64 0, .int .i64 0, .int .i64 0, .bool false, .slice none 0 0, .bool false, .int .i64 0, .int .i64 0, .int .i64 0, .int .i64 0, .int .i64 0, .string ⟨#[]⟩, .string ⟨#[]⟩, .int .i64 0, .int .i64 0, .int .i64 0, .slice none 0 0] 32) := ⟨_, rfl⟩
  have KX0 : Blk W0 w.heap.size 32 #[.int .i8 x.kd, .int .i64 x.b.pid, .int .i64 x.b.ep, .int .i64 x.b.seq, .bool x.b.txn, .slice A1 x.b.rs.length c1, .bool x.yes, .int .i64 x.nx, .int .i64 x.off, .int .i64 x.row.1, .int .i64 x.row.2.1, .int .i64 x.row.2.2.1, .string x.row.2.2.2.1, .string x.row.2.2.2.2, .int .i64 x.prod.pid, .int .i64 x.prod.ep, .int .i64 x.prod.nx, .slice D1 x.prod.seen.length e1] := by rw [hW0]; exact (Blk.new _ _ _).alloc _
  have KR0 : Blk W0 (w.heap.size + 1) 32 ezero := by rw [hW0]; exact blk_new _ _ _ (by simp)
  have b0 : Below w.heap.size w W0 := by rw [hW0]; exact bal (bal (Below.refl _ _) _) _
  have hs0 : W0.heap.size = w.heap.size + 2 := by rw [hW0]; simp
  obtain ⟨W1, st1, kO, bb⟩ := fresh_en W0 #[Value.int .i8 x.kd, Value.int .i64 0, Value.int .i64 0, Value.int .i64 0, Value.bool false, Value.slice none 0 0, Value.bool false, Value.int .i64 0, Value.int .i64 0, Value.int .i64 0, Value.int .i64 0, Value.int .i64 0, Value.string ⟨#[]⟩, Value.string ⟨#[]⟩, Value.int .i64 0, Value.int .i64 0, Value.int .i64 0, Value.slice none 0 0] rfl (by simp [Value.oneCell'])
  have KX := KX0.below bb KX0.lt
  have KR := KR0.below bb KR0.lt
  have b1 := btrans b0 (bb.mono (by omega))
  have HW0 := Lib.hid hW0
  have x0 := KX0.cell 0
  have ST1 := Lib.hid st1
  have KX1 := Lib.hid KX
  have KR1 := Lib.hid KR
  have KO1 := Lib.hid kO
  have B1 := Lib.hid b1
  have HS0 := Lib.hid hs0
  have g1 : w.heap.size ≠ W0.heap.size := by omega
  have g2 : w.heap.size + 1 ≠ W0.heap.size := by omega
  have g3 : w.heap.size ≤ W0.heap.size := by omega
  have HG := Lib.hid (And.intro g1 (And.intro g2 g3))
  clear hW0 KX0 KR0 b0 hs0 st1 kO bb KX KR b1 g1 g2 g3 hr hk
  have HY := Lib.hid hy
  clear hy
  go_enter Tryz.func39, Tryz.ntmps39
  go_upto_region 1 with (fail)
  rw [← HW0.out]
  have st1 := ST1.out
  go_upto_region 2 with (fail)
  clear st1 x0
  have x0 := KX1.out.cell 0
  have LB := cells_off KX1.out 1 5 rfl rfl
  obtain ⟨W2, st, kO, _, fb, fk⟩ := store_off ([Value.int .i8 x.kd] : List Value) ([Value.int .i64 0, Value.int .i64 0, Value.int .i64 0, Value.bool false, Value.slice none 0 0] : List Value) ([Value.bool false, Value.int .i64 0, Value.int .i64 0, Value.int .i64 0, Value.int .i64 0, Value.int .i64 0, Value.string ⟨#[]⟩, Value.string ⟨#[]⟩, Value.int .i64 0, Value.int .i64 0, Value.int .i64 0, Value.slice none 0 0] : List Value) 25 (#[Value.int .i64 x.b.pid, Value.int .i64 x.b.ep, Value.int .i64 x.b.seq, Value.bool x.b.txn, Value.slice A1 x.b.rs.length c1] : Array Value) (show Blk W1 W0.heap.size 32 (([Value.int .i8 x.kd] : List Value) ++ ([Value.int .i64 0, Value.int .i64 0, Value.int .i64 0, Value.bool false, Value.slice none 0 0] ++ [Value.bool false, Value.int .i64 0, Value.int .i64 0, Value.int .i64 0, Value.int .i64 0, Value.int .i64 0, Value.string ⟨#[]⟩, Value.string ⟨#[]⟩, Value.int .i64 0, Value.int .i64 0, Value.int .i64 0, Value.slice none 0 0])).toArray from KO1.out) rfl (by kernel_rfl) (by simp [Value.oneCell'])
  have st2 : _ := st
  have KX2 := Lib.hid (fk _ _ _ HG.out.1 KX1.out)
  have KR2 := Lib.hid (fk _ _ _ HG.out.2.1 KR1.out)
  have B2 := Lib.hid (fb _ w HG.out.2.2 B1.out)
  have KO2 := Lib.hid (show Blk W2 W0.heap.size 32 #[Value.int .i8 x.kd, Value.int .i64 x.b.pid, Value.int .i64 x.b.ep, Value.int .i64 x.b.seq, Value.bool x.b.txn, Value.slice A1 x.b.rs.length c1, Value.bool false, Value.int .i64 0, Value.int .i64 0, Value.int .i64 0, Value.int .i64 0, Value.int .i64 0, Value.string ⟨#[]⟩, Value.string ⟨#[]⟩, Value.int .i64 0, Value.int .i64 0, Value.int .i64 0, Value.slice none 0 0] from kO)
  clear st kO fb fk
  simp only [List.length_cons, List.length_nil, Nat.reduceAdd, Nat.zero_add] at st2
  go_upto_region 12 with (fail)
  clear st2 LB 
  have x6 := KX2.out.cell 6
  obtain ⟨W3, st, kO, _, fb, fk⟩ := store_cell ([Value.int .i8 x.kd, Value.int .i64 x.b.pid, Value.int .i64 x.b.ep, Value.int .i64 x.b.seq, Value.bool x.b.txn, Value.slice A1 x.b.rs.length c1] : List Value) (Value.bool false) ([Value.int .i64 0, Value.int .i64 0, Value.int .i64 0, Value.int .i64 0, Value.int .i64 0, Value.string ⟨#[]⟩, Value.string ⟨#[]⟩, Value.int .i64 0, Value.int .i64 0, Value.int .i64 0, Value.slice none 0 0] : List Value) 4 (Value.bool x.yes) (fun W u h1 h2 => store_bool7 (x.yes) h1 h2) (show Blk W2 W0.heap.size 32 (([Value.int .i8 x.kd, Value.int .i64 x.b.pid, Value.int .i64 x.b.ep, Value.int .i64 x.b.seq, Value.bool x.b.txn, Value.slice A1 x.b.rs.length c1] : List Value) ++ ((Value.bool false) :: [Value.int .i64 0, Value.int .i64 0, Value.int .i64 0, Value.int .i64 0, Value.int .i64 0, Value.string ⟨#[]⟩, Value.string ⟨#[]⟩, Value.int .i64 0, Value.int .i64 0, Value.int .i64 0, Value.slice none 0 0])).toArray from KO2.out)
  have st3 : _ := st
  have KX3 := Lib.hid (fk _ _ _ HG.out.1 KX2.out)
  have KR3 := Lib.hid (fk _ _ _ HG.out.2.1 KR2.out)
  have B3 := Lib.hid (fb _ w HG.out.2.2 B2.out)
  have KO3 := Lib.hid (show Blk W3 W0.heap.size 32 #[Value.int .i8 x.kd, Value.int .i64 x.b.pid, Value.int .i64 x.b.ep, Value.int .i64 x.b.seq, Value.bool x.b.txn, Value.slice A1 x.b.rs.length c1, Value.bool x.yes, Value.int .i64 0, Value.int .i64 0, Value.int .i64 0, Value.int .i64 0, Value.int .i64 0, Value.string ⟨#[]⟩, Value.string ⟨#[]⟩, Value.int .i64 0, Value.int .i64 0, Value.int .i64 0, Value.slice none 0 0] from kO)
  clear st kO fb fk
  simp only [List.length_cons, List.length_nil, Nat.reduceAdd, Nat.zero_add] at st3
  go_upto_region 13 with (fail)
  clear st3 x6
  have x6 := KX3.out.cell 6
  rw [HY.out] at x6
  go_upto_region 23 with (fail)
  clear x6
  have LO := cells_blk KO3.out rfl
  obtain ⟨W9, st9, kw, fb, _⟩ := store_blk2 (cs := #[Value.int .i8 x.kd, Value.int .i64 x.b.pid, Value.int .i64 x.b.ep, Value.int .i64 x.b.seq, Value.bool x.b.txn, Value.slice A1 x.b.rs.length c1, Value.bool x.yes, Value.int .i64 0, Value.int .i64 0, Value.int .i64 0, Value.int .i64 0, Value.int .i64 0, Value.string ⟨#[]⟩, Value.string ⟨#[]⟩, Value.int .i64 0, Value.int .i64 0, Value.int .i64 0, Value.slice none 0 0]) KR3.out rfl rfl (by simp [Value.oneCell'])
  have BW := Lib.hid (fb _ w (Nat.le_succ _) B3.out)
  have KW := Lib.hid kw
  clear kw fb
  go_wp2_with fail
  have kq : Blk W9 (w.heap.size + 1) 32 #[.int .i8 (bareEn x).kd, .int .i64 (bareEn x).b.pid, .int .i64 (bareEn x).b.ep, .int .i64 (bareEn x).b.seq, .bool (bareEn x).b.txn, .slice A1 (bareEn x).b.rs.length c1, .bool (bareEn x).yes, .int .i64 (bareEn x).nx, .int .i64 (bareEn x).off, .int .i64 (bareEn x).row.1, .int .i64 (bareEn x).row.2.1, .int .i64 (bareEn x).row.2.2.1, .string (bareEn x).row.2.2.2.1, .string (bareEn x).row.2.2.2.2, .int .i64 (bareEn x).prod.pid, .int .i64 (bareEn x).prod.ep, .int .i64 (bareEn x).prod.nx, .slice none (bareEn x).prod.seen.length 0] := by rw [HQ.out]; exact KW.out
  refine bodyPost_ret (bare_ret (bareEn x) A1 none c1 0 _ (w.heap.size + 1) _ rfl kq) rfl ?_
  refine ⟨A1, none, c1, 0, rfl, ?_, BW.out⟩
  rw [HQ.out]
  exact ⟨(HR.out.up BW.out).1, Reads.none_, HR.out.2.2.1, Nat.zero_le _⟩
set_option maxRecDepth 100000 in
set_option maxHeartbeats 4000000 in
theorem bare_3t (x : En) (hk : x.kd = 3) (hy : x.yes = true) (A1 D1 : Option Addr) (c1 e1 : Nat) (w : World) (hr : EnR w x A1 D1) :
    Calls Tryz.prog 39 #[(.agg #[.int .i8 x.kd, .int .i64 x.b.pid, .int .i64 x.b.ep, .int .i64 x.b.seq, .bool x.b.txn, .slice A1 x.b.rs.length c1, .bool x.yes, .int .i64 x.nx, .int .i64 x.off, .int .i64 x.row.1, .int .i64 x.row.2.1, .int .i64 x.row.2.2.1, .string x.row.2.2.2.1, .string x.row.2.2.2.2, .int .i64 x.prod.pid, .int .i64 x.prod.ep, .int .i64 x.prod.nx, .slice D1 x.prod.seen.length e1])] w (BarePost x w) := by
  have HR := Lib.hid hr
  have HQ := Lib.hid (show bareEn x = { baseEn x.kd with b := x.b, yes := x.yes, nx := x.nx } by unfold bareEn; rw [hk, hy]; rfl)
  have cc0 : (x.kd == 0) = false := by rw [hk]; rfl
  have cc1 : (x.kd == 1) = false := by rw [hk]; rfl
  have cc2 : (x.kd == 2) = false := by rw [hk]; rfl
  have cc3 : (x.kd == 3) = true := by rw [hk]; rfl
  have cc4 : (x.kd == 4) = false := by rw [hk]; rfl
  have cc5 : (x.kd == 5) = false := by rw [hk]; rfl
  have cc6 : (x.kd == 6) = false := by rw [hk]; rfl
  obtain ⟨W0, hW0⟩ : ∃ W0, W0 = (w.alloc (.cells #[.int .i8 x.kd, .int .i64 x.b.pid, .int .i64 x.b.ep, .int .i64 x.b.seq, .bool x.b.txn, .slice A1 x.b.rs.length c1, .bool x.yes, .int .i64 x.nx, .int .i64 x.off, .int .i64 x.row.1, .int .i64 x.row.2.1, .int .i64 x.row.2.2.1, .string x.row.2.2.2.1, .string x.row.2.2.2.2, .int .i64 x.prod.pid, .int .i64 x.prod.ep, .int .i64 x.prod.nx, .slice D1 x.prod.seen.length e1] 32)).alloc (.cells #[.int .i8 0, .int .i64 0, .int .i64 0, .int .i64 0, .bool false, .slice none 0 0, .bool false, .int .i64 0, .int .i64 0, .int .i64 0, .int .i64 0, .int .i64 0, .string ⟨#[]⟩, .string ⟨#[]⟩, .int .i64 0, .int .i64 0, .int .i64 0, .slice none 0 0] 32) := ⟨_, rfl⟩
  have KX0 : Blk W0 w.heap.size 32 #[.int .i8 x.kd, .int .i64 x.b.pid, .int .i64 x.b.ep, .int .i64 x.b.seq, .bool x.b.txn, .slice A1 x.b.rs.length c1, .bool x.yes, .int .i64 x.nx, .int .i64 x.off, .int .i64 x.row.1, .int .i64 x.row.2.1, .int .i64 x.row.2.2.1, .string x.row.2.2.2.1, .string x.row.2.2.2.2, .int .i64 x.prod.pid, .int .i64 x.prod.ep, .int .i64 x.prod.nx, .slice D1 x.prod.seen.length e1] := by rw [hW0]; exact (Blk.new _ _ _).alloc _
  have KR0 : Blk W0 (w.heap.size + 1) 32 ezero := by rw [hW0]; exact blk_new _ _ _ (by simp)
  have b0 : Below w.heap.size w W0 := by rw [hW0]; exact bal (bal (Below.refl _ _) _) _
  have hs0 : W0.heap.size = w.heap.size + 2 := by rw [hW0]; simp
  obtain ⟨W1, st1, kO, bb⟩ := fresh_en W0 #[Value.int .i8 x.kd, Value.int .i64 0, Value.int .i64 0, Value.int .i64 0, Value.bool false, Value.slice none 0 0, Value.bool false, Value.int .i64 0, Value.int .i64 0, Value.int .i64 0, Value.int .i64 0, Value.int .i64 0, Value.string ⟨#[]⟩, Value.string ⟨#[]⟩, Value.int .i64 0, Value.int .i64 0, Value.int .i64 0, Value.slice none 0 0] rfl (by simp [Value.oneCell'])
  have KX := KX0.below bb KX0.lt
  have KR := KR0.below bb KR0.lt
  have b1 := btrans b0 (bb.mono (by omega))
  have HW0 := Lib.hid hW0
  have x0 := KX0.cell 0
  have ST1 := Lib.hid st1
  have KX1 := Lib.hid KX
  have KR1 := Lib.hid KR
  have KO1 := Lib.hid kO
  have B1 := Lib.hid b1
  have HS0 := Lib.hid hs0
  have g1 : w.heap.size ≠ W0.heap.size := by omega
  have g2 : w.heap.size + 1 ≠ W0.heap.size := by omega
  have g3 : w.heap.size ≤ W0.heap.size := by omega
  have HG := Lib.hid (And.intro g1 (And.intro g2 g3))
  clear hW0 KX0 KR0 b0 hs0 st1 kO bb KX KR b1 g1 g2 g3 hr hk
  have HY := Lib.hid hy
  clear hy
  go_enter Tryz.func39, Tryz.ntmps39
  go_upto_region 1 with (fail)
  rw [← HW0.out]
  have st1 := ST1.out
  go_upto_region 2 with (fail)
  clear st1 x0
  have x0 := KX1.out.cell 0
  have LB := cells_off KX1.out 1 5 rfl rfl
  obtain ⟨W2, st, kO, _, fb, fk⟩ := store_off ([Value.int .i8 x.kd] : List Value) ([Value.int .i64 0, Value.int .i64 0, Value.int .i64 0, Value.bool false, Value.slice none 0 0] : List Value) ([Value.bool false, Value.int .i64 0, Value.int .i64 0, Value.int .i64 0, Value.int .i64 0, Value.int .i64 0, Value.string ⟨#[]⟩, Value.string ⟨#[]⟩, Value.int .i64 0, Value.int .i64 0, Value.int .i64 0, Value.slice none 0 0] : List Value) 25 (#[Value.int .i64 x.b.pid, Value.int .i64 x.b.ep, Value.int .i64 x.b.seq, Value.bool x.b.txn, Value.slice A1 x.b.rs.length c1] : Array Value) (show Blk W1 W0.heap.size 32 (([Value.int .i8 x.kd] : List Value) ++ ([Value.int .i64 0, Value.int .i64 0, Value.int .i64 0, Value.bool false, Value.slice none 0 0] ++ [Value.bool false, Value.int .i64 0, Value.int .i64 0, Value.int .i64 0, Value.int .i64 0, Value.int .i64 0, Value.string ⟨#[]⟩, Value.string ⟨#[]⟩, Value.int .i64 0, Value.int .i64 0, Value.int .i64 0, Value.slice none 0 0])).toArray from KO1.out) rfl (by kernel_rfl) (by simp [Value.oneCell'])
  have st2 : _ := st
  have KX2 := Lib.hid (fk _ _ _ HG.out.1 KX1.out)
  have KR2 := Lib.hid (fk _ _ _ HG.out.2.1 KR1.out)
  have B2 := Lib.hid (fb _ w HG.out.2.2 B1.out)
  have KO2 := Lib.hid (show Blk W2 W0.heap.size 32 #[Value.int .i8 x.kd, Value.int .i64 x.b.pid, Value.int .i64 x.b.ep, Value.int .i64 x.b.seq, Value.bool x.b.txn, Value.slice A1 x.b.rs.length c1, Value.bool false, Value.int .i64 0, Value.int .i64 0, Value.int .i64 0, Value.int .i64 0, Value.int .i64 0, Value.string ⟨#[]⟩, Value.string ⟨#[]⟩, Value.int .i64 0, Value.int .i64 0, Value.int .i64 0, Value.slice none 0 0] from kO)
  clear st kO fb fk
  simp only [List.length_cons, List.length_nil, Nat.reduceAdd, Nat.zero_add] at st2
  go_upto_region 12 with (fail)
  clear st2 LB 
  have x6 := KX2.out.cell 6
  obtain ⟨W3, st, kO, _, fb, fk⟩ := store_cell ([Value.int .i8 x.kd, Value.int .i64 x.b.pid, Value.int .i64 x.b.ep, Value.int .i64 x.b.seq, Value.bool x.b.txn, Value.slice A1 x.b.rs.length c1] : List Value) (Value.bool false) ([Value.int .i64 0, Value.int .i64 0, Value.int .i64 0, Value.int .i64 0, Value.int .i64 0, Value.string ⟨#[]⟩, Value.string ⟨#[]⟩, Value.int .i64 0, Value.int .i64 0, Value.int .i64 0, Value.slice none 0 0] : List Value) 4 (Value.bool x.yes) (fun W u h1 h2 => store_bool7 (x.yes) h1 h2) (show Blk W2 W0.heap.size 32 (([Value.int .i8 x.kd, Value.int .i64 x.b.pid, Value.int .i64 x.b.ep, Value.int .i64 x.b.seq, Value.bool x.b.txn, Value.slice A1 x.b.rs.length c1] : List Value) ++ ((Value.bool false) :: [Value.int .i64 0, Value.int .i64 0, Value.int .i64 0, Value.int .i64 0, Value.int .i64 0, Value.string ⟨#[]⟩, Value.string ⟨#[]⟩, Value.int .i64 0, Value.int .i64 0, Value.int .i64 0, Value.slice none 0 0])).toArray from KO2.out)
  have st3 : _ := st
  have KX3 := Lib.hid (fk _ _ _ HG.out.1 KX2.out)
  have KR3 := Lib.hid (fk _ _ _ HG.out.2.1 KR2.out)
  have B3 := Lib.hid (fb _ w HG.out.2.2 B2.out)
  have KO3 := Lib.hid (show Blk W3 W0.heap.size 32 #[Value.int .i8 x.kd, Value.int .i64 x.b.pid, Value.int .i64 x.b.ep, Value.int .i64 x.b.seq, Value.bool x.b.txn, Value.slice A1 x.b.rs.length c1, Value.bool x.yes, Value.int .i64 0, Value.int .i64 0, Value.int .i64 0, Value.int .i64 0, Value.int .i64 0, Value.string ⟨#[]⟩, Value.string ⟨#[]⟩, Value.int .i64 0, Value.int .i64 0, Value.int .i64 0, Value.slice none 0 0] from kO)
  clear st kO fb fk
  simp only [List.length_cons, List.length_nil, Nat.reduceAdd, Nat.zero_add] at st3
  go_upto_region 13 with (fail)
  clear st3 x6
  have x6 := KX3.out.cell 6
  rw [HY.out] at x6
  go_upto_region 14 with (fail)
  clear x6
  have x7 := KX3.out.cell 7
  obtain ⟨W4, st, kO, _, fb, fk⟩ := store_cell ([Value.int .i8 x.kd, Value.int .i64 x.b.pid, Value.int .i64 x.b.ep, Value.int .i64 x.b.seq, Value.bool x.b.txn, Value.slice A1 x.b.rs.length c1, Value.bool x.yes] : List Value) (Value.int .i64 0) ([Value.int .i64 0, Value.int .i64 0, Value.int .i64 0, Value.int .i64 0, Value.string ⟨#[]⟩, Value.string ⟨#[]⟩, Value.int .i64 0, Value.int .i64 0, Value.int .i64 0, Value.slice none 0 0] : List Value) 3 (Value.int .i64 x.nx) (fun W u h1 h2 => store_int7 (x.nx) h1 h2) (show Blk W3 W0.heap.size 32 (([Value.int .i8 x.kd, Value.int .i64 x.b.pid, Value.int .i64 x.b.ep, Value.int .i64 x.b.seq, Value.bool x.b.txn, Value.slice A1 x.b.rs.length c1, Value.bool x.yes] : List Value) ++ ((Value.int .i64 0) :: [Value.int .i64 0, Value.int .i64 0, Value.int .i64 0, Value.int .i64 0, Value.string ⟨#[]⟩, Value.string ⟨#[]⟩, Value.int .i64 0, Value.int .i64 0, Value.int .i64 0, Value.slice none 0 0])).toArray from KO3.out)
  have st4 : _ := st
  have KX4 := Lib.hid (fk _ _ _ HG.out.1 KX3.out)
  have KR4 := Lib.hid (fk _ _ _ HG.out.2.1 KR3.out)
  have B4 := Lib.hid (fb _ w HG.out.2.2 B3.out)
  have KO4 := Lib.hid (show Blk W4 W0.heap.size 32 #[Value.int .i8 x.kd, Value.int .i64 x.b.pid, Value.int .i64 x.b.ep, Value.int .i64 x.b.seq, Value.bool x.b.txn, Value.slice A1 x.b.rs.length c1, Value.bool x.yes, Value.int .i64 x.nx, Value.int .i64 0, Value.int .i64 0, Value.int .i64 0, Value.int .i64 0, Value.string ⟨#[]⟩, Value.string ⟨#[]⟩, Value.int .i64 0, Value.int .i64 0, Value.int .i64 0, Value.slice none 0 0] from kO)
  clear st kO fb fk
  simp only [List.length_cons, List.length_nil, Nat.reduceAdd, Nat.zero_add] at st4
  go_upto_region 23 with (fail)
  clear st4 x7
  have LO := cells_blk KO4.out rfl
  obtain ⟨W9, st9, kw, fb, _⟩ := store_blk2 (cs := #[Value.int .i8 x.kd, Value.int .i64 x.b.pid, Value.int .i64 x.b.ep, Value.int .i64 x.b.seq, Value.bool x.b.txn, Value.slice A1 x.b.rs.length c1, Value.bool x.yes, Value.int .i64 x.nx, Value.int .i64 0, Value.int .i64 0, Value.int .i64 0, Value.int .i64 0, Value.string ⟨#[]⟩, Value.string ⟨#[]⟩, Value.int .i64 0, Value.int .i64 0, Value.int .i64 0, Value.slice none 0 0]) KR4.out rfl rfl (by simp [Value.oneCell'])
  have BW := Lib.hid (fb _ w (Nat.le_succ _) B4.out)
  have KW := Lib.hid kw
  clear kw fb
  go_wp2_with fail
  have kq : Blk W9 (w.heap.size + 1) 32 #[.int .i8 (bareEn x).kd, .int .i64 (bareEn x).b.pid, .int .i64 (bareEn x).b.ep, .int .i64 (bareEn x).b.seq, .bool (bareEn x).b.txn, .slice A1 (bareEn x).b.rs.length c1, .bool (bareEn x).yes, .int .i64 (bareEn x).nx, .int .i64 (bareEn x).off, .int .i64 (bareEn x).row.1, .int .i64 (bareEn x).row.2.1, .int .i64 (bareEn x).row.2.2.1, .string (bareEn x).row.2.2.2.1, .string (bareEn x).row.2.2.2.2, .int .i64 (bareEn x).prod.pid, .int .i64 (bareEn x).prod.ep, .int .i64 (bareEn x).prod.nx, .slice none (bareEn x).prod.seen.length 0] := by rw [HQ.out]; exact KW.out
  refine bodyPost_ret (bare_ret (bareEn x) A1 none c1 0 _ (w.heap.size + 1) _ rfl kq) rfl ?_
  refine ⟨A1, none, c1, 0, rfl, ?_, BW.out⟩
  rw [HQ.out]
  exact ⟨(HR.out.up BW.out).1, Reads.none_, HR.out.2.2.1, Nat.zero_le _⟩
set_option maxRecDepth 100000 in
set_option maxHeartbeats 4000000 in
theorem bare_4 (x : En) (hk : x.kd = 4) (A1 D1 : Option Addr) (c1 e1 : Nat) (w : World) (hr : EnR w x A1 D1) :
    Calls Tryz.prog 39 #[(.agg #[.int .i8 x.kd, .int .i64 x.b.pid, .int .i64 x.b.ep, .int .i64 x.b.seq, .bool x.b.txn, .slice A1 x.b.rs.length c1, .bool x.yes, .int .i64 x.nx, .int .i64 x.off, .int .i64 x.row.1, .int .i64 x.row.2.1, .int .i64 x.row.2.2.1, .string x.row.2.2.2.1, .string x.row.2.2.2.2, .int .i64 x.prod.pid, .int .i64 x.prod.ep, .int .i64 x.prod.nx, .slice D1 x.prod.seen.length e1])] w (BarePost x w) := by
  have HR := Lib.hid hr
  have HQ := Lib.hid (show bareEn x = { baseEn x.kd with b := wh x.b.pid x.b.ep, nx := x.nx } by unfold bareEn; rw [hk]; rfl)
  have cc0 : (x.kd == 0) = false := by rw [hk]; rfl
  have cc1 : (x.kd == 1) = false := by rw [hk]; rfl
  have cc2 : (x.kd == 2) = false := by rw [hk]; rfl
  have cc3 : (x.kd == 3) = false := by rw [hk]; rfl
  have cc4 : (x.kd == 4) = true := by rw [hk]; rfl
  have cc5 : (x.kd == 5) = false := by rw [hk]; rfl
  have cc6 : (x.kd == 6) = false := by rw [hk]; rfl
  obtain ⟨W0, hW0⟩ : ∃ W0, W0 = (w.alloc (.cells #[.int .i8 x.kd, .int .i64 x.b.pid, .int .i64 x.b.ep, .int .i64 x.b.seq, .bool x.b.txn, .slice A1 x.b.rs.length c1, .bool x.yes, .int .i64 x.nx, .int .i64 x.off, .int .i64 x.row.1, .int .i64 x.row.2.1, .int .i64 x.row.2.2.1, .string x.row.2.2.2.1, .string x.row.2.2.2.2, .int .i64 x.prod.pid, .int .i64 x.prod.ep, .int .i64 x.prod.nx, .slice D1 x.prod.seen.length e1] 32)).alloc (.cells #[.int .i8 0, .int .i64 0, .int .i64 0, .int .i64 0, .bool false, .slice none 0 0, .bool false, .int .i64 0, .int .i64 0, .int .i64 0, .int .i64 0, .int .i64 0, .string ⟨#[]⟩, .string ⟨#[]⟩, .int .i64 0, .int .i64 0, .int .i64 0, .slice none 0 0] 32) := ⟨_, rfl⟩
  have KX0 : Blk W0 w.heap.size 32 #[.int .i8 x.kd, .int .i64 x.b.pid, .int .i64 x.b.ep, .int .i64 x.b.seq, .bool x.b.txn, .slice A1 x.b.rs.length c1, .bool x.yes, .int .i64 x.nx, .int .i64 x.off, .int .i64 x.row.1, .int .i64 x.row.2.1, .int .i64 x.row.2.2.1, .string x.row.2.2.2.1, .string x.row.2.2.2.2, .int .i64 x.prod.pid, .int .i64 x.prod.ep, .int .i64 x.prod.nx, .slice D1 x.prod.seen.length e1] := by rw [hW0]; exact (Blk.new _ _ _).alloc _
  have KR0 : Blk W0 (w.heap.size + 1) 32 ezero := by rw [hW0]; exact blk_new _ _ _ (by simp)
  have b0 : Below w.heap.size w W0 := by rw [hW0]; exact bal (bal (Below.refl _ _) _) _
  have hs0 : W0.heap.size = w.heap.size + 2 := by rw [hW0]; simp
  obtain ⟨W1, st1, kO, bb⟩ := fresh_en W0 #[Value.int .i8 x.kd, Value.int .i64 0, Value.int .i64 0, Value.int .i64 0, Value.bool false, Value.slice none 0 0, Value.bool false, Value.int .i64 0, Value.int .i64 0, Value.int .i64 0, Value.int .i64 0, Value.int .i64 0, Value.string ⟨#[]⟩, Value.string ⟨#[]⟩, Value.int .i64 0, Value.int .i64 0, Value.int .i64 0, Value.slice none 0 0] rfl (by simp [Value.oneCell'])
  have KX := KX0.below bb KX0.lt
  have KR := KR0.below bb KR0.lt
  have b1 := btrans b0 (bb.mono (by omega))
  have HW0 := Lib.hid hW0
  have x0 := KX0.cell 0
  have ST1 := Lib.hid st1
  have KX1 := Lib.hid KX
  have KR1 := Lib.hid KR
  have KO1 := Lib.hid kO
  have B1 := Lib.hid b1
  have HS0 := Lib.hid hs0
  have g1 : w.heap.size ≠ W0.heap.size := by omega
  have g2 : w.heap.size + 1 ≠ W0.heap.size := by omega
  have g3 : w.heap.size ≤ W0.heap.size := by omega
  have HG := Lib.hid (And.intro g1 (And.intro g2 g3))
  clear hW0 KX0 KR0 b0 hs0 st1 kO bb KX KR b1 g1 g2 g3 hr hk
  go_enter Tryz.func39, Tryz.ntmps39
  go_upto_region 1 with (fail)
  rw [← HW0.out]
  have st1 := ST1.out
  go_upto_region 2 with (fail)
  clear st1 x0
  have x0 := KX1.out.cell 0
  have x1 := KX1.out.cell 1
  have x2 := KX1.out.cell 2
  obtain ⟨W2, st, kO, _, fb, fk⟩ := store_off ([Value.int .i8 x.kd] : List Value) ([Value.int .i64 0, Value.int .i64 0, Value.int .i64 0, Value.bool false, Value.slice none 0 0] : List Value) ([Value.bool false, Value.int .i64 0, Value.int .i64 0, Value.int .i64 0, Value.int .i64 0, Value.int .i64 0, Value.string ⟨#[]⟩, Value.string ⟨#[]⟩, Value.int .i64 0, Value.int .i64 0, Value.int .i64 0, Value.slice none 0 0] : List Value) 25 (#[Value.int .i64 x.b.pid, Value.int .i64 x.b.ep, Value.int .i64 0, Value.bool false, Value.slice none 0 0] : Array Value) (show Blk W1 W0.heap.size 32 (([Value.int .i8 x.kd] : List Value) ++ ([Value.int .i64 0, Value.int .i64 0, Value.int .i64 0, Value.bool false, Value.slice none 0 0] ++ [Value.bool false, Value.int .i64 0, Value.int .i64 0, Value.int .i64 0, Value.int .i64 0, Value.int .i64 0, Value.string ⟨#[]⟩, Value.string ⟨#[]⟩, Value.int .i64 0, Value.int .i64 0, Value.int .i64 0, Value.slice none 0 0])).toArray from KO1.out) rfl (by kernel_rfl) (by simp [Value.oneCell'])
  have st2 : _ := st
  have KX2 := Lib.hid (fk _ _ _ HG.out.1 KX1.out)
  have KR2 := Lib.hid (fk _ _ _ HG.out.2.1 KR1.out)
  have B2 := Lib.hid (fb _ w HG.out.2.2 B1.out)
  have KO2 := Lib.hid (show Blk W2 W0.heap.size 32 #[Value.int .i8 x.kd, Value.int .i64 x.b.pid, Value.int .i64 x.b.ep, Value.int .i64 0, Value.bool false, Value.slice none 0 0, Value.bool false, Value.int .i64 0, Value.int .i64 0, Value.int .i64 0, Value.int .i64 0, Value.int .i64 0, Value.string ⟨#[]⟩, Value.string ⟨#[]⟩, Value.int .i64 0, Value.int .i64 0, Value.int .i64 0, Value.slice none 0 0] from kO)
  clear st kO fb fk
  simp only [List.length_cons, List.length_nil, Nat.reduceAdd, Nat.zero_add] at st2
  go_upto_region 17 with (fail)
  clear st2 x1 x2
  have x7 := KX2.out.cell 7
  obtain ⟨W3, st, kO, _, fb, fk⟩ := store_cell ([Value.int .i8 x.kd, Value.int .i64 x.b.pid, Value.int .i64 x.b.ep, Value.int .i64 0, Value.bool false, Value.slice none 0 0, Value.bool false] : List Value) (Value.int .i64 0) ([Value.int .i64 0, Value.int .i64 0, Value.int .i64 0, Value.int .i64 0, Value.string ⟨#[]⟩, Value.string ⟨#[]⟩, Value.int .i64 0, Value.int .i64 0, Value.int .i64 0, Value.slice none 0 0] : List Value) 3 (Value.int .i64 x.nx) (fun W u h1 h2 => store_int7 (x.nx) h1 h2) (show Blk W2 W0.heap.size 32 (([Value.int .i8 x.kd, Value.int .i64 x.b.pid, Value.int .i64 x.b.ep, Value.int .i64 0, Value.bool false, Value.slice none 0 0, Value.bool false] : List Value) ++ ((Value.int .i64 0) :: [Value.int .i64 0, Value.int .i64 0, Value.int .i64 0, Value.int .i64 0, Value.string ⟨#[]⟩, Value.string ⟨#[]⟩, Value.int .i64 0, Value.int .i64 0, Value.int .i64 0, Value.slice none 0 0])).toArray from KO2.out)
  have st3 : _ := st
  have KX3 := Lib.hid (fk _ _ _ HG.out.1 KX2.out)
  have KR3 := Lib.hid (fk _ _ _ HG.out.2.1 KR2.out)
  have B3 := Lib.hid (fb _ w HG.out.2.2 B2.out)
  have KO3 := Lib.hid (show Blk W3 W0.heap.size 32 #[Value.int .i8 x.kd, Value.int .i64 x.b.pid, Value.int .i64 x.b.ep, Value.int .i64 0, Value.bool false, Value.slice none 0 0, Value.bool false, Value.int .i64 x.nx, Value.int .i64 0, Value.int .i64 0, Value.int .i64 0, Value.int .i64 0, Value.string ⟨#[]⟩, Value.string ⟨#[]⟩, Value.int .i64 0, Value.int .i64 0, Value.int .i64 0, Value.slice none 0 0] from kO)
  clear st kO fb fk
  simp only [List.length_cons, List.length_nil, Nat.reduceAdd, Nat.zero_add] at st3
  go_upto_region 23 with (fail)
  clear st3 x7
  have LO := cells_blk KO3.out rfl
  obtain ⟨W9, st9, kw, fb, _⟩ := store_blk2 (cs := #[Value.int .i8 x.kd, Value.int .i64 x.b.pid, Value.int .i64 x.b.ep, Value.int .i64 0, Value.bool false, Value.slice none 0 0, Value.bool false, Value.int .i64 x.nx, Value.int .i64 0, Value.int .i64 0, Value.int .i64 0, Value.int .i64 0, Value.string ⟨#[]⟩, Value.string ⟨#[]⟩, Value.int .i64 0, Value.int .i64 0, Value.int .i64 0, Value.slice none 0 0]) KR3.out rfl rfl (by simp [Value.oneCell'])
  have BW := Lib.hid (fb _ w (Nat.le_succ _) B3.out)
  have KW := Lib.hid kw
  clear kw fb
  go_wp2_with fail
  have kq : Blk W9 (w.heap.size + 1) 32 #[.int .i8 (bareEn x).kd, .int .i64 (bareEn x).b.pid, .int .i64 (bareEn x).b.ep, .int .i64 (bareEn x).b.seq, .bool (bareEn x).b.txn, .slice none (bareEn x).b.rs.length 0, .bool (bareEn x).yes, .int .i64 (bareEn x).nx, .int .i64 (bareEn x).off, .int .i64 (bareEn x).row.1, .int .i64 (bareEn x).row.2.1, .int .i64 (bareEn x).row.2.2.1, .string (bareEn x).row.2.2.2.1, .string (bareEn x).row.2.2.2.2, .int .i64 (bareEn x).prod.pid, .int .i64 (bareEn x).prod.ep, .int .i64 (bareEn x).prod.nx, .slice none (bareEn x).prod.seen.length 0] := by rw [HQ.out]; exact KW.out
  refine bodyPost_ret (bare_ret (bareEn x) none none 0 0 _ (w.heap.size + 1) _ rfl kq) rfl ?_
  refine ⟨none, none, 0, 0, rfl, ?_, BW.out⟩
  rw [HQ.out]
  exact ⟨Reads.none_, Reads.none_, Nat.zero_le _, Nat.zero_le _⟩
set_option maxRecDepth 100000 in
set_option maxHeartbeats 4000000 in
theorem bare_5 (x : En) (hk : x.kd = 5) (A1 D1 : Option Addr) (c1 e1 : Nat) (w : World) (hr : EnR w x A1 D1) :
    Calls Tryz.prog 39 #[(.agg #[.int .i8 x.kd, .int .i64 x.b.pid, .int .i64 x.b.ep, .int .i64 x.b.seq, .bool x.b.txn, .slice A1 x.b.rs.length c1, .bool x.yes, .int .i64 x.nx, .int .i64 x.off, .int .i64 x.row.1, .int .i64 x.row.2.1, .int .i64 x.row.2.2.1, .string x.row.2.2.2.1, .string x.row.2.2.2.2, .int .i64 x.prod.pid, .int .i64 x.prod.ep, .int .i64 x.prod.nx, .slice D1 x.prod.seen.length e1])] w (BarePost x w) := by
  have HR := Lib.hid hr
  have HQ := Lib.hid (show bareEn x = { baseEn x.kd with row := (0, x.row.2.1, x.row.2.2.1, x.row.2.2.2.1, x.row.2.2.2.2) } by unfold bareEn; rw [hk]; rfl)
  have cc0 : (x.kd == 0) = false := by rw [hk]; rfl
  have cc1 : (x.kd == 1) = false := by rw [hk]; rfl
  have cc2 : (x.kd == 2) = false := by rw [hk]; rfl
  have cc3 : (x.kd == 3) = false := by rw [hk]; rfl
  have cc4 : (x.kd == 4) = false := by rw [hk]; rfl
  have cc5 : (x.kd == 5) = true := by rw [hk]; rfl
  have cc6 : (x.kd == 6) = false := by rw [hk]; rfl
  obtain ⟨W0, hW0⟩ : ∃ W0, W0 = (w.alloc (.cells #[.int .i8 x.kd, .int .i64 x.b.pid, .int .i64 x.b.ep, .int .i64 x.b.seq, .bool x.b.txn, .slice A1 x.b.rs.length c1, .bool x.yes, .int .i64 x.nx, .int .i64 x.off, .int .i64 x.row.1, .int .i64 x.row.2.1, .int .i64 x.row.2.2.1, .string x.row.2.2.2.1, .string x.row.2.2.2.2, .int .i64 x.prod.pid, .int .i64 x.prod.ep, .int .i64 x.prod.nx, .slice D1 x.prod.seen.length e1] 32)).alloc (.cells #[.int .i8 0, .int .i64 0, .int .i64 0, .int .i64 0, .bool false, .slice none 0 0, .bool false, .int .i64 0, .int .i64 0, .int .i64 0, .int .i64 0, .int .i64 0, .string ⟨#[]⟩, .string ⟨#[]⟩, .int .i64 0, .int .i64 0, .int .i64 0, .slice none 0 0] 32) := ⟨_, rfl⟩
  have KX0 : Blk W0 w.heap.size 32 #[.int .i8 x.kd, .int .i64 x.b.pid, .int .i64 x.b.ep, .int .i64 x.b.seq, .bool x.b.txn, .slice A1 x.b.rs.length c1, .bool x.yes, .int .i64 x.nx, .int .i64 x.off, .int .i64 x.row.1, .int .i64 x.row.2.1, .int .i64 x.row.2.2.1, .string x.row.2.2.2.1, .string x.row.2.2.2.2, .int .i64 x.prod.pid, .int .i64 x.prod.ep, .int .i64 x.prod.nx, .slice D1 x.prod.seen.length e1] := by rw [hW0]; exact (Blk.new _ _ _).alloc _
  have KR0 : Blk W0 (w.heap.size + 1) 32 ezero := by rw [hW0]; exact blk_new _ _ _ (by simp)
  have b0 : Below w.heap.size w W0 := by rw [hW0]; exact bal (bal (Below.refl _ _) _) _
  have hs0 : W0.heap.size = w.heap.size + 2 := by rw [hW0]; simp
  obtain ⟨W1, st1, kO, bb⟩ := fresh_en W0 #[Value.int .i8 x.kd, Value.int .i64 0, Value.int .i64 0, Value.int .i64 0, Value.bool false, Value.slice none 0 0, Value.bool false, Value.int .i64 0, Value.int .i64 0, Value.int .i64 0, Value.int .i64 0, Value.int .i64 0, Value.string ⟨#[]⟩, Value.string ⟨#[]⟩, Value.int .i64 0, Value.int .i64 0, Value.int .i64 0, Value.slice none 0 0] rfl (by simp [Value.oneCell'])
  have KX := KX0.below bb KX0.lt
  have KR := KR0.below bb KR0.lt
  have b1 := btrans b0 (bb.mono (by omega))
  have HW0 := Lib.hid hW0
  have x0 := KX0.cell 0
  have ST1 := Lib.hid st1
  have KX1 := Lib.hid KX
  have KR1 := Lib.hid KR
  have KO1 := Lib.hid kO
  have B1 := Lib.hid b1
  have HS0 := Lib.hid hs0
  have g1 : w.heap.size ≠ W0.heap.size := by omega
  have g2 : w.heap.size + 1 ≠ W0.heap.size := by omega
  have g3 : w.heap.size ≤ W0.heap.size := by omega
  have HG := Lib.hid (And.intro g1 (And.intro g2 g3))
  clear hW0 KX0 KR0 b0 hs0 st1 kO bb KX KR b1 g1 g2 g3 hr hk
  go_enter Tryz.func39, Tryz.ntmps39
  go_upto_region 1 with (fail)
  rw [← HW0.out]
  have st1 := ST1.out
  go_upto_region 2 with (fail)
  clear st1 x0
  have x0 := KX1.out.cell 0
  have LB := cells_off KX1.out 9 5 rfl rfl
  obtain ⟨W2, st, kO, _, fb, fk⟩ := store_off ([Value.int .i8 x.kd, Value.int .i64 0, Value.int .i64 0, Value.int .i64 0, Value.bool false, Value.slice none 0 0, Value.bool false, Value.int .i64 0, Value.int .i64 0] : List Value) ([Value.int .i64 0, Value.int .i64 0, Value.int .i64 0, Value.string ⟨#[]⟩, Value.string ⟨#[]⟩] : List Value) ([Value.int .i64 0, Value.int .i64 0, Value.int .i64 0, Value.slice none 0 0] : List Value) 27 (#[Value.int .i64 x.row.1, Value.int .i64 x.row.2.1, Value.int .i64 x.row.2.2.1, Value.string x.row.2.2.2.1, Value.string x.row.2.2.2.2] : Array Value) (show Blk W1 W0.heap.size 32 (([Value.int .i8 x.kd, Value.int .i64 0, Value.int .i64 0, Value.int .i64 0, Value.bool false, Value.slice none 0 0, Value.bool false, Value.int .i64 0, Value.int .i64 0] : List Value) ++ ([Value.int .i64 0, Value.int .i64 0, Value.int .i64 0, Value.string ⟨#[]⟩, Value.string ⟨#[]⟩] ++ [Value.int .i64 0, Value.int .i64 0, Value.int .i64 0, Value.slice none 0 0])).toArray from KO1.out) rfl (by kernel_rfl) (by simp [Value.oneCell'])
  have st2 : _ := st
  have KX2 := Lib.hid (fk _ _ _ HG.out.1 KX1.out)
  have KR2 := Lib.hid (fk _ _ _ HG.out.2.1 KR1.out)
  have B2 := Lib.hid (fb _ w HG.out.2.2 B1.out)
  have KO2 := Lib.hid (show Blk W2 W0.heap.size 32 #[Value.int .i8 x.kd, Value.int .i64 0, Value.int .i64 0, Value.int .i64 0, Value.bool false, Value.slice none 0 0, Value.bool false, Value.int .i64 0, Value.int .i64 0, Value.int .i64 x.row.1, Value.int .i64 x.row.2.1, Value.int .i64 x.row.2.2.1, Value.string x.row.2.2.2.1, Value.string x.row.2.2.2.2, Value.int .i64 0, Value.int .i64 0, Value.int .i64 0, Value.slice none 0 0] from kO)
  clear st kO fb fk
  simp only [List.length_cons, List.length_nil, Nat.reduceAdd, Nat.zero_add] at st2
  go_upto_region 20 with (fail)
  clear st2 LB 
  obtain ⟨W3, st, kO, _, fb, fk⟩ := store_cell ([Value.int .i8 x.kd, Value.int .i64 0, Value.int .i64 0, Value.int .i64 0, Value.bool false, Value.slice none 0 0, Value.bool false, Value.int .i64 0, Value.int .i64 0] : List Value) (Value.int .i64 x.row.1) ([Value.int .i64 x.row.2.1, Value.int .i64 x.row.2.2.1, Value.string x.row.2.2.2.1, Value.string x.row.2.2.2.2, Value.int .i64 0, Value.int .i64 0, Value.int .i64 0, Value.slice none 0 0] : List Value) 3 (Value.int .i64 0) (fun W u h1 h2 => store_int7 (0) h1 h2) (show Blk W2 W0.heap.size 32 (([Value.int .i8 x.kd, Value.int .i64 0, Value.int .i64 0, Value.int .i64 0, Value.bool false, Value.slice none 0 0, Value.bool false, Value.int .i64 0, Value.int .i64 0] : List Value) ++ ((Value.int .i64 x.row.1) :: [Value.int .i64 x.row.2.1, Value.int .i64 x.row.2.2.1, Value.string x.row.2.2.2.1, Value.string x.row.2.2.2.2, Value.int .i64 0, Value.int .i64 0, Value.int .i64 0, Value.slice none 0 0])).toArray from KO2.out)
  have st3 : _ := st
  have KX3 := Lib.hid (fk _ _ _ HG.out.1 KX2.out)
  have KR3 := Lib.hid (fk _ _ _ HG.out.2.1 KR2.out)
  have B3 := Lib.hid (fb _ w HG.out.2.2 B2.out)
  have KO3 := Lib.hid (show Blk W3 W0.heap.size 32 #[Value.int .i8 x.kd, Value.int .i64 0, Value.int .i64 0, Value.int .i64 0, Value.bool false, Value.slice none 0 0, Value.bool false, Value.int .i64 0, Value.int .i64 0, Value.int .i64 0, Value.int .i64 x.row.2.1, Value.int .i64 x.row.2.2.1, Value.string x.row.2.2.2.1, Value.string x.row.2.2.2.2, Value.int .i64 0, Value.int .i64 0, Value.int .i64 0, Value.slice none 0 0] from kO)
  clear st kO fb fk
  simp only [List.length_cons, List.length_nil, Nat.reduceAdd, Nat.zero_add] at st3
  go_upto_region 23 with (fail)
  clear st3 
  have LO := cells_blk KO3.out rfl
  obtain ⟨W9, st9, kw, fb, _⟩ := store_blk2 (cs := #[Value.int .i8 x.kd, Value.int .i64 0, Value.int .i64 0, Value.int .i64 0, Value.bool false, Value.slice none 0 0, Value.bool false, Value.int .i64 0, Value.int .i64 0, Value.int .i64 0, Value.int .i64 x.row.2.1, Value.int .i64 x.row.2.2.1, Value.string x.row.2.2.2.1, Value.string x.row.2.2.2.2, Value.int .i64 0, Value.int .i64 0, Value.int .i64 0, Value.slice none 0 0]) KR3.out rfl rfl (by simp [Value.oneCell'])
  have BW := Lib.hid (fb _ w (Nat.le_succ _) B3.out)
  have KW := Lib.hid kw
  clear kw fb
  go_wp2_with fail
  have kq : Blk W9 (w.heap.size + 1) 32 #[.int .i8 (bareEn x).kd, .int .i64 (bareEn x).b.pid, .int .i64 (bareEn x).b.ep, .int .i64 (bareEn x).b.seq, .bool (bareEn x).b.txn, .slice none (bareEn x).b.rs.length 0, .bool (bareEn x).yes, .int .i64 (bareEn x).nx, .int .i64 (bareEn x).off, .int .i64 (bareEn x).row.1, .int .i64 (bareEn x).row.2.1, .int .i64 (bareEn x).row.2.2.1, .string (bareEn x).row.2.2.2.1, .string (bareEn x).row.2.2.2.2, .int .i64 (bareEn x).prod.pid, .int .i64 (bareEn x).prod.ep, .int .i64 (bareEn x).prod.nx, .slice none (bareEn x).prod.seen.length 0] := by rw [HQ.out]; exact KW.out
  refine bodyPost_ret (bare_ret (bareEn x) none none 0 0 _ (w.heap.size + 1) _ rfl kq) rfl ?_
  refine ⟨none, none, 0, 0, rfl, ?_, BW.out⟩
  rw [HQ.out]
  exact ⟨Reads.none_, Reads.none_, Nat.zero_le _, Nat.zero_le _⟩
set_option maxRecDepth 100000 in
set_option maxHeartbeats 4000000 in
theorem bare_6 (x : En) (hk : x.kd = 6) (A1 D1 : Option Addr) (c1 e1 : Nat) (w : World) (hr : EnR w x A1 D1) :
    Calls Tryz.prog 39 #[(.agg #[.int .i8 x.kd, .int .i64 x.b.pid, .int .i64 x.b.ep, .int .i64 x.b.seq, .bool x.b.txn, .slice A1 x.b.rs.length c1, .bool x.yes, .int .i64 x.nx, .int .i64 x.off, .int .i64 x.row.1, .int .i64 x.row.2.1, .int .i64 x.row.2.2.1, .string x.row.2.2.2.1, .string x.row.2.2.2.2, .int .i64 x.prod.pid, .int .i64 x.prod.ep, .int .i64 x.prod.nx, .slice D1 x.prod.seen.length e1])] w (BarePost x w) := by
  have HR := Lib.hid hr
  have HQ := Lib.hid (show bareEn x = { baseEn x.kd with prod := x.prod } by unfold bareEn; rw [hk]; rfl)
  have cc0 : (x.kd == 0) = false := by rw [hk]; rfl
  have cc1 : (x.kd == 1) = false := by rw [hk]; rfl
  have cc2 : (x.kd == 2) = false := by rw [hk]; rfl
  have cc3 : (x.kd == 3) = false := by rw [hk]; rfl
  have cc4 : (x.kd == 4) = false := by rw [hk]; rfl
  have cc5 : (x.kd == 5) = false := by rw [hk]; rfl
  have cc6 : (x.kd == 6) = true := by rw [hk]; rfl
  obtain ⟨W0, hW0⟩ : ∃ W0, W0 = (w.alloc (.cells #[.int .i8 x.kd, .int .i64 x.b.pid, .int .i64 x.b.ep, .int .i64 x.b.seq, .bool x.b.txn, .slice A1 x.b.rs.length c1, .bool x.yes, .int .i64 x.nx, .int .i64 x.off, .int .i64 x.row.1, .int .i64 x.row.2.1, .int .i64 x.row.2.2.1, .string x.row.2.2.2.1, .string x.row.2.2.2.2, .int .i64 x.prod.pid, .int .i64 x.prod.ep, .int .i64 x.prod.nx, .slice D1 x.prod.seen.length e1] 32)).alloc (.cells #[.int .i8 0, .int .i64 0, .int .i64 0, .int .i64 0, .bool false, .slice none 0 0, .bool false, .int .i64 0, .int .i64 0, .int .i64 0, .int .i64 0, .int .i64 0, .string ⟨#[]⟩, .string ⟨#[]⟩, .int .i64 0, .int .i64 0, .int .i64 0, .slice none 0 0] 32) := ⟨_, rfl⟩
  have KX0 : Blk W0 w.heap.size 32 #[.int .i8 x.kd, .int .i64 x.b.pid, .int .i64 x.b.ep, .int .i64 x.b.seq, .bool x.b.txn, .slice A1 x.b.rs.length c1, .bool x.yes, .int .i64 x.nx, .int .i64 x.off, .int .i64 x.row.1, .int .i64 x.row.2.1, .int .i64 x.row.2.2.1, .string x.row.2.2.2.1, .string x.row.2.2.2.2, .int .i64 x.prod.pid, .int .i64 x.prod.ep, .int .i64 x.prod.nx, .slice D1 x.prod.seen.length e1] := by rw [hW0]; exact (Blk.new _ _ _).alloc _
  have KR0 : Blk W0 (w.heap.size + 1) 32 ezero := by rw [hW0]; exact blk_new _ _ _ (by simp)
  have b0 : Below w.heap.size w W0 := by rw [hW0]; exact bal (bal (Below.refl _ _) _) _
  have hs0 : W0.heap.size = w.heap.size + 2 := by rw [hW0]; simp
  obtain ⟨W1, st1, kO, bb⟩ := fresh_en W0 #[Value.int .i8 x.kd, Value.int .i64 0, Value.int .i64 0, Value.int .i64 0, Value.bool false, Value.slice none 0 0, Value.bool false, Value.int .i64 0, Value.int .i64 0, Value.int .i64 0, Value.int .i64 0, Value.int .i64 0, Value.string ⟨#[]⟩, Value.string ⟨#[]⟩, Value.int .i64 0, Value.int .i64 0, Value.int .i64 0, Value.slice none 0 0] rfl (by simp [Value.oneCell'])
  have KX := KX0.below bb KX0.lt
  have KR := KR0.below bb KR0.lt
  have b1 := btrans b0 (bb.mono (by omega))
  have HW0 := Lib.hid hW0
  have x0 := KX0.cell 0
  have ST1 := Lib.hid st1
  have KX1 := Lib.hid KX
  have KR1 := Lib.hid KR
  have KO1 := Lib.hid kO
  have B1 := Lib.hid b1
  have HS0 := Lib.hid hs0
  have g1 : w.heap.size ≠ W0.heap.size := by omega
  have g2 : w.heap.size + 1 ≠ W0.heap.size := by omega
  have g3 : w.heap.size ≤ W0.heap.size := by omega
  have HG := Lib.hid (And.intro g1 (And.intro g2 g3))
  clear hW0 KX0 KR0 b0 hs0 st1 kO bb KX KR b1 g1 g2 g3 hr hk
  go_enter Tryz.func39, Tryz.ntmps39
  go_upto_region 1 with (fail)
  rw [← HW0.out]
  have st1 := ST1.out
  go_upto_region 2 with (fail)
  clear st1 x0
  have x0 := KX1.out.cell 0
  have LB := cells_off KX1.out 14 4 rfl rfl
  obtain ⟨W2, st, kO, _, fb, fk⟩ := store_off ([Value.int .i8 x.kd, Value.int .i64 0, Value.int .i64 0, Value.int .i64 0, Value.bool false, Value.slice none 0 0, Value.bool false, Value.int .i64 0, Value.int .i64 0, Value.int .i64 0, Value.int .i64 0, Value.int .i64 0, Value.string ⟨#[]⟩, Value.string ⟨#[]⟩] : List Value) ([Value.int .i64 0, Value.int .i64 0, Value.int .i64 0, Value.slice none 0 0] : List Value) ([] : List Value) 30 (#[Value.int .i64 x.prod.pid, Value.int .i64 x.prod.ep, Value.int .i64 x.prod.nx, Value.slice D1 x.prod.seen.length e1] : Array Value) (show Blk W1 W0.heap.size 32 (([Value.int .i8 x.kd, Value.int .i64 0, Value.int .i64 0, Value.int .i64 0, Value.bool false, Value.slice none 0 0, Value.bool false, Value.int .i64 0, Value.int .i64 0, Value.int .i64 0, Value.int .i64 0, Value.int .i64 0, Value.string ⟨#[]⟩, Value.string ⟨#[]⟩] : List Value) ++ ([Value.int .i64 0, Value.int .i64 0, Value.int .i64 0, Value.slice none 0 0] ++ [])).toArray from KO1.out) rfl (by kernel_rfl) (by simp [Value.oneCell'])
  have st2 : _ := st
  have KX2 := Lib.hid (fk _ _ _ HG.out.1 KX1.out)
  have KR2 := Lib.hid (fk _ _ _ HG.out.2.1 KR1.out)
  have B2 := Lib.hid (fb _ w HG.out.2.2 B1.out)
  have KO2 := Lib.hid (show Blk W2 W0.heap.size 32 #[Value.int .i8 x.kd, Value.int .i64 0, Value.int .i64 0, Value.int .i64 0, Value.bool false, Value.slice none 0 0, Value.bool false, Value.int .i64 0, Value.int .i64 0, Value.int .i64 0, Value.int .i64 0, Value.int .i64 0, Value.string ⟨#[]⟩, Value.string ⟨#[]⟩, Value.int .i64 x.prod.pid, Value.int .i64 x.prod.ep, Value.int .i64 x.prod.nx, Value.slice D1 x.prod.seen.length e1] from kO)
  clear st kO fb fk
  simp only [List.length_cons, List.length_nil, Nat.reduceAdd, Nat.zero_add] at st2
  go_upto_region 23 with (fail)
  clear st2 LB 
  have LO := cells_blk KO2.out rfl
  obtain ⟨W9, st9, kw, fb, _⟩ := store_blk2 (cs := #[Value.int .i8 x.kd, Value.int .i64 0, Value.int .i64 0, Value.int .i64 0, Value.bool false, Value.slice none 0 0, Value.bool false, Value.int .i64 0, Value.int .i64 0, Value.int .i64 0, Value.int .i64 0, Value.int .i64 0, Value.string ⟨#[]⟩, Value.string ⟨#[]⟩, Value.int .i64 x.prod.pid, Value.int .i64 x.prod.ep, Value.int .i64 x.prod.nx, Value.slice D1 x.prod.seen.length e1]) KR2.out rfl rfl (by simp [Value.oneCell'])
  have BW := Lib.hid (fb _ w (Nat.le_succ _) B2.out)
  have KW := Lib.hid kw
  clear kw fb
  go_wp2_with fail
  have kq : Blk W9 (w.heap.size + 1) 32 #[.int .i8 (bareEn x).kd, .int .i64 (bareEn x).b.pid, .int .i64 (bareEn x).b.ep, .int .i64 (bareEn x).b.seq, .bool (bareEn x).b.txn, .slice none (bareEn x).b.rs.length 0, .bool (bareEn x).yes, .int .i64 (bareEn x).nx, .int .i64 (bareEn x).off, .int .i64 (bareEn x).row.1, .int .i64 (bareEn x).row.2.1, .int .i64 (bareEn x).row.2.2.1, .string (bareEn x).row.2.2.2.1, .string (bareEn x).row.2.2.2.2, .int .i64 (bareEn x).prod.pid, .int .i64 (bareEn x).prod.ep, .int .i64 (bareEn x).prod.nx, .slice D1 (bareEn x).prod.seen.length e1] := by rw [HQ.out]; exact KW.out
  refine bodyPost_ret (bare_ret (bareEn x) none D1 0 e1 _ (w.heap.size + 1) _ rfl kq) rfl ?_
  refine ⟨none, D1, 0, e1, rfl, ?_, BW.out⟩
  rw [HQ.out]
  exact ⟨Reads.none_, (HR.out.up BW.out).2.1, Nat.zero_le _, HR.out.2.2.2⟩
set_option maxRecDepth 100000 in
set_option maxHeartbeats 4000000 in
theorem bare_9 (x : En) (h0 : ¬ x.kd = 0) (h1 : ¬ x.kd = 1) (h2 : ¬ x.kd = 2) (h3 : ¬ x.kd = 3) (h4 : ¬ x.kd = 4) (h5 : ¬ x.kd = 5) (h6 : ¬ x.kd = 6) (A1 D1 : Option Addr) (c1 e1 : Nat) (w : World) (hr : EnR w x A1 D1) :
    Calls Tryz.prog 39 #[(.agg #[.int .i8 x.kd, .int .i64 x.b.pid, .int .i64 x.b.ep, .int .i64 x.b.seq, .bool x.b.txn, .slice A1 x.b.rs.length c1, .bool x.yes, .int .i64 x.nx, .int .i64 x.off, .int .i64 x.row.1, .int .i64 x.row.2.1, .int .i64 x.row.2.2.1, .string x.row.2.2.2.1, .string x.row.2.2.2.2, .int .i64 x.prod.pid, .int .i64 x.prod.ep, .int .i64 x.prod.nx, .slice D1 x.prod.seen.length e1])] w (BarePost x w) := by
  have HR := Lib.hid hr
  have HQ := Lib.hid (show bareEn x = baseEn x.kd by unfold bareEn; rw [if_neg h0, if_neg h1, if_neg h2, if_neg h3, if_neg h4, if_neg h5, if_neg h6])
  have cc0 : (x.kd == 0) = false := by simpa using h0
  have cc1 : (x.kd == 1) = false := by simpa using h1
  have cc2 : (x.kd == 2) = false := by simpa using h2
  have cc3 : (x.kd == 3) = false := by simpa using h3
  have cc4 : (x.kd == 4) = false := by simpa using h4
  have cc5 : (x.kd == 5) = false := by simpa using h5
  have cc6 : (x.kd == 6) = false := by simpa using h6
  obtain ⟨W0, hW0⟩ : ∃ W0, W0 = (w.alloc (.cells #[.int .i8 x.kd, .int .i64 x.b.pid, .int .i64 x.b.ep, .int .i64 x.b.seq, .bool x.b.txn, .slice A1 x.b.rs.length c1, .bool x.yes, .int .i64 x.nx, .int .i64 x.off, .int .i64 x.row.1, .int .i64 x.row.2.1, .int .i64 x.row.2.2.1, .string x.row.2.2.2.1, .string x.row.2.2.2.2, .int .i64 x.prod.pid, .int .i64 x.prod.ep, .int .i64 x.prod.nx, .slice D1 x.prod.seen.length e1] 32)).alloc (.cells #[.int .i8 0, .int .i64 0, .int .i64 0, .int .i64 0, .bool false, .slice none 0 0, .bool false, .int .i64 0, .int .i64 0, .int .i64 0, .int .i64 0, .int .i64 0, .string ⟨#[]⟩, .string ⟨#[]⟩, .int .i64 0, .int .i64 0, .int .i64 0, .slice none 0 0] 32) := ⟨_, rfl⟩
  have KX0 : Blk W0 w.heap.size 32 #[.int .i8 x.kd, .int .i64 x.b.pid, .int .i64 x.b.ep, .int .i64 x.b.seq, .bool x.b.txn, .slice A1 x.b.rs.length c1, .bool x.yes, .int .i64 x.nx, .int .i64 x.off, .int .i64 x.row.1, .int .i64 x.row.2.1, .int .i64 x.row.2.2.1, .string x.row.2.2.2.1, .string x.row.2.2.2.2, .int .i64 x.prod.pid, .int .i64 x.prod.ep, .int .i64 x.prod.nx, .slice D1 x.prod.seen.length e1] := by rw [hW0]; exact (Blk.new _ _ _).alloc _
  have KR0 : Blk W0 (w.heap.size + 1) 32 ezero := by rw [hW0]; exact blk_new _ _ _ (by simp)
  have b0 : Below w.heap.size w W0 := by rw [hW0]; exact bal (bal (Below.refl _ _) _) _
  have hs0 : W0.heap.size = w.heap.size + 2 := by rw [hW0]; simp
  obtain ⟨W1, st1, kO, bb⟩ := fresh_en W0 #[Value.int .i8 x.kd, Value.int .i64 0, Value.int .i64 0, Value.int .i64 0, Value.bool false, Value.slice none 0 0, Value.bool false, Value.int .i64 0, Value.int .i64 0, Value.int .i64 0, Value.int .i64 0, Value.int .i64 0, Value.string ⟨#[]⟩, Value.string ⟨#[]⟩, Value.int .i64 0, Value.int .i64 0, Value.int .i64 0, Value.slice none 0 0] rfl (by simp [Value.oneCell'])
  have KX := KX0.below bb KX0.lt
  have KR := KR0.below bb KR0.lt
  have b1 := btrans b0 (bb.mono (by omega))
  have HW0 := Lib.hid hW0
  have x0 := KX0.cell 0
  have ST1 := Lib.hid st1
  have KX1 := Lib.hid KX
  have KR1 := Lib.hid KR
  have KO1 := Lib.hid kO
  have B1 := Lib.hid b1
  have HS0 := Lib.hid hs0
  have g1 : w.heap.size ≠ W0.heap.size := by omega
  have g2 : w.heap.size + 1 ≠ W0.heap.size := by omega
  have g3 : w.heap.size ≤ W0.heap.size := by omega
  have HG := Lib.hid (And.intro g1 (And.intro g2 g3))
  clear hW0 KX0 KR0 b0 hs0 st1 kO bb KX KR b1 g1 g2 g3 hr h0 h1 h2 h3 h4 h5 h6
  go_enter Tryz.func39, Tryz.ntmps39
  go_upto_region 1 with (fail)
  rw [← HW0.out]
  have st1 := ST1.out
  go_upto_region 2 with (fail)
  clear st1 x0
  have x0 := KX1.out.cell 0
  go_upto_region 23 with (fail)
  have LO := cells_blk KO1.out rfl
  obtain ⟨W9, st9, kw, fb, _⟩ := store_blk2 (cs := #[Value.int .i8 x.kd, Value.int .i64 0, Value.int .i64 0, Value.int .i64 0, Value.bool false, Value.slice none 0 0, Value.bool false, Value.int .i64 0, Value.int .i64 0, Value.int .i64 0, Value.int .i64 0, Value.int .i64 0, Value.string ⟨#[]⟩, Value.string ⟨#[]⟩, Value.int .i64 0, Value.int .i64 0, Value.int .i64 0, Value.slice none 0 0]) KR1.out rfl rfl (by simp [Value.oneCell'])
  have BW := Lib.hid (fb _ w (Nat.le_succ _) B1.out)
  have KW := Lib.hid kw
  clear kw fb
  go_wp2_with fail
  have kq : Blk W9 (w.heap.size + 1) 32 #[.int .i8 (bareEn x).kd, .int .i64 (bareEn x).b.pid, .int .i64 (bareEn x).b.ep, .int .i64 (bareEn x).b.seq, .bool (bareEn x).b.txn, .slice none (bareEn x).b.rs.length 0, .bool (bareEn x).yes, .int .i64 (bareEn x).nx, .int .i64 (bareEn x).off, .int .i64 (bareEn x).row.1, .int .i64 (bareEn x).row.2.1, .int .i64 (bareEn x).row.2.2.1, .string (bareEn x).row.2.2.2.1, .string (bareEn x).row.2.2.2.2, .int .i64 (bareEn x).prod.pid, .int .i64 (bareEn x).prod.ep, .int .i64 (bareEn x).prod.nx, .slice none (bareEn x).prod.seen.length 0] := by rw [HQ.out]; exact KW.out
  refine bodyPost_ret (bare_ret (bareEn x) none none 0 0 _ (w.heap.size + 1) _ rfl kq) rfl ?_
  refine ⟨none, none, 0, 0, rfl, ?_, BW.out⟩
  rw [HQ.out]
  exact ⟨Reads.none_, Reads.none_, Nat.zero_le _, Nat.zero_le _⟩
end
theorem bare_any (x : En) (A1 D1 : Option Addr) (c1 e1 : Nat) (w : World) (hr : EnR w x A1 D1) :
    Calls Tryz.prog 39 #[(.agg #[.int .i8 x.kd, .int .i64 x.b.pid, .int .i64 x.b.ep, .int .i64 x.b.seq, .bool x.b.txn, .slice A1 x.b.rs.length c1, .bool x.yes, .int .i64 x.nx, .int .i64 x.off, .int .i64 x.row.1, .int .i64 x.row.2.1, .int .i64 x.row.2.2.1, .string x.row.2.2.2.1, .string x.row.2.2.2.2, .int .i64 x.prod.pid, .int .i64 x.prod.ep, .int .i64 x.prod.nx, .slice D1 x.prod.seen.length e1])] w (BarePost x w) := by
  by_cases h0 : x.kd = 0
  · exact bare_0 x h0 A1 D1 c1 e1 w hr
  by_cases h1 : x.kd = 1
  · exact bare_1 x h1 A1 D1 c1 e1 w hr
  by_cases h2 : x.kd = 2
  · exact bare_2 x h2 A1 D1 c1 e1 w hr
  by_cases h3 : x.kd = 3
  · have hyy : x.yes = false ∨ x.yes = true := by cases x.yes <;> simp
    rcases hyy with hy | hy
    · exact bare_3f x h3 hy A1 D1 c1 e1 w hr
    · exact bare_3t x h3 hy A1 D1 c1 e1 w hr
  by_cases h4 : x.kd = 4
  · exact bare_4 x h4 A1 D1 c1 e1 w hr
  by_cases h5 : x.kd = 5
  · exact bare_5 x h5 A1 D1 c1 e1 w hr
  by_cases h6 : x.kd = 6
  · exact bare_6 x h6 A1 D1 c1 e1 w hr
  exact bare_9 x h0 h1 h2 h3 h4 h5 h6 A1 D1 c1 e1 w hr
end Go.Proofs.YtckdecodpjfcnaaGreatDoor
namespace Go.Proofs.YtckdecodpjfcnaaGreatDoor
open Go.RowKit

theorem withinS_any (x : Int) (w : World) : Calls Tryz.prog 42 #[.int .i64 x, .int .i64 0, .int .i64 1048576] w fun e w' => e = .returned (.bool (seqB x)) ∧ w = w' := within_any x 0 1048576 w
section
attribute [-go_sem] loadCells storeVar
set_option maxRecDepth 100000 in
set_option maxHeartbeats 4000000 in
theorem rEnMay_0 (x : En) (hk : x.kd = 0) (A1 D1 : Option Addr) (c1 e1 : Nat) (w : World) (hr : EnR w x A1 D1) :
    Calls Tryz.prog 14 #[(.agg #[.int .i8 x.kd, .int .i64 x.b.pid, .int .i64 x.b.ep, .int .i64 x.b.seq, .bool x.b.txn, .slice A1 x.b.rs.length c1, .bool x.yes, .int .i64 x.nx, .int .i64 x.off, .int .i64 x.row.1, .int .i64 x.row.2.1, .int .i64 x.row.2.2.1, .string x.row.2.2.2.1, .string x.row.2.2.2.2, .int .i64 x.prod.pid, .int .i64 x.prod.ep, .int .i64 x.prod.nx, .slice D1 x.prod.seen.length e1])] w fun e w' => e = .returned (.bool (mayEn x)) ∧ Below w.heap.size w w' := by
  have HR := Lib.hid hr
  have HM := Lib.hid (show mayEn x = (sameEn x (bareEn x) && (mayBt x.b)) by rw [← mayR_eq x]; unfold okR; rw [hk]; rfl)
  have cc0 : (x.kd == 0) = true := by rw [hk]; rfl
  have cc1 : (x.kd == 1) = false := by rw [hk]; rfl
  have cc2 : (x.kd == 2) = false := by rw [hk]; rfl
  have cc3 : (x.kd == 3) = false := by rw [hk]; rfl
  have cc4 : (x.kd == 4) = false := by rw [hk]; rfl
  have cc5 : (x.kd == 5) = false := by rw [hk]; rfl
  have cc6 : (x.kd == 6) = false := by rw [hk]; rfl
  have K0 := Lib.hid (Blk.new w 32 #[.int .i8 x.kd, .int .i64 x.b.pid, .int .i64 x.b.ep, .int .i64 x.b.seq, .bool x.b.txn, .slice A1 x.b.rs.length c1, .bool x.yes, .int .i64 x.nx, .int .i64 x.off, .int .i64 x.row.1, .int .i64 x.row.2.1, .int .i64 x.row.2.2.1, .string x.row.2.2.2.1, .string x.row.2.2.2.2, .int .i64 x.prod.pid, .int .i64 x.prod.ep, .int .i64 x.prod.nx, .slice D1 x.prod.seen.length e1])
  have B0 := Lib.hid (bal (Below.refl w.heap.size w) (.cells #[.int .i8 x.kd, .int .i64 x.b.pid, .int .i64 x.b.ep, .int .i64 x.b.seq, .bool x.b.txn, .slice A1 x.b.rs.length c1, .bool x.yes, .int .i64 x.nx, .int .i64 x.off, .int .i64 x.row.1, .int .i64 x.row.2.1, .int .i64 x.row.2.2.1, .string x.row.2.2.2.1, .string x.row.2.2.2.2, .int .i64 x.prod.pid, .int .i64 x.prod.ep, .int .i64 x.prod.nx, .slice D1 x.prod.seen.length e1] 32))
  clear hr hk
  generalize hsm : sameEn x (bareEn x) = sm at HM
  have HSM := Lib.hid hsm
  clear hsm
  go_enter Tryz.func14, Tryz.ntmps14
  go_upto_region 1 with (fail)
  go_region_held3 (fun W => (loadCells ⟨w.heap.size, 0, none⟩ 18).run Tryz.prog W = .ok #[.int .i8 x.kd, .int .i64 x.b.pid, .int .i64 x.b.ep, .int .i64 x.b.seq, .bool x.b.txn, .slice A1 x.b.rs.length c1, .bool x.yes, .int .i64 x.nx, .int .i64 x.off, .int .i64 x.row.1, .int .i64 x.row.2.1, .int .i64 x.row.2.2.1, .string x.row.2.2.2.1, .string x.row.2.2.2.2, .int .i64 x.prod.pid, .int .i64 x.prod.ep, .int .i64 x.prod.nx, .slice D1 x.prod.seen.length e1] W)
    (first | exact cells_blk K0.out.drew rfl | exact yL | exact zL)
    (first
      | (go_at_call 39; refine (bare_any x A1 D1 c1 e1 _ (HR.out.up (B0.out.trans (Below.refl _ _).drew))).mono ?_; rintro e w4 ⟨A9, D9, c9, e9, rfl, r9, b4⟩; have k4 := K0.out.drew.below b4 K0.out.lt; have K4 := Lib.hid k4; have yL := cells_blk k4 rfl; have B4 := Lib.hid (btrans B0.out ((Below.refl _ _).drew.trans (b4.mono (Nat.le_refl _)))); have R9 := Lib.hid r9; clear k4 b4 r9)
      | (go_at_call 16; refine (rEnSame_any x (bareEn x) A1 D1 A9 D9 c1 e1 c9 e9 _ (HR.out.up B4.out) R9.out).mono ?_; rintro e w5 ⟨rfl, b5⟩; have k5 := K4.out.below b5 K4.out.lt; have K5 := Lib.hid k5; have zL := cells_blk k5 rfl; have B5 := Lib.hid (btrans B4.out b5); clear k5 b5))
  all_goals
    rw [HSM.out]
    cases sm
    case false =>
      go_wp2_with fail
      go_ret
      exact ⟨ret_bool (by rw [HM.out]; rfl), B5.out⟩
    clear zL
    have x0 := K5.out.cell 0
    have LB := cells_off K5.out 1 5 rfl rfl
    go_wp2_with fail
    refine (rRcMay_any x.b A1 c1 _ (HR.out.up B5.out).1).mono ?_
    rintro e w6 ⟨rfl, b6⟩
    have BZ := Lib.hid (btrans B5.out b6)
    go_wp2_with fail
    go_ret
    exact ⟨ret_bool (by rw [HM.out]; rfl), BZ.out⟩
set_option maxRecDepth 100000 in
set_option maxHeartbeats 4000000 in
theorem rEnMay_1 (x : En) (hk : x.kd = 1) (A1 D1 : Option Addr) (c1 e1 : Nat) (w : World) (hr : EnR w x A1 D1) :
    Calls Tryz.prog 14 #[(.agg #[.int .i8 x.kd, .int .i64 x.b.pid, .int .i64 x.b.ep, .int .i64 x.b.seq, .bool x.b.txn, .slice A1 x.b.rs.length c1, .bool x.yes, .int .i64 x.nx, .int .i64 x.off, .int .i64 x.row.1, .int .i64 x.row.2.1, .int .i64 x.row.2.2.1, .string x.row.2.2.2.1, .string x.row.2.2.2.2, .int .i64 x.prod.pid, .int .i64 x.prod.ep, .int .i64 x.prod.nx, .slice D1 x.prod.seen.length e1])] w fun e w' => e = .returned (.bool (mayEn x)) ∧ Below w.heap.size w w' := by
  have HR := Lib.hid hr
  have HM := Lib.hid (show mayEn x = (sameEn x (bareEn x) && (prodB x.b.pid x.b.ep)) by rw [← mayR_eq x]; unfold okR; rw [hk]; rfl)
  have cc0 : (x.kd == 0) = false := by rw [hk]; rfl
  have cc1 : (x.kd == 1) = true := by rw [hk]; rfl
  have cc2 : (x.kd == 2) = false := by rw [hk]; rfl
  have cc3 : (x.kd == 3) = false := by rw [hk]; rfl
  have cc4 : (x.kd == 4) = false := by rw [hk]; rfl
  have cc5 : (x.kd == 5) = false := by rw [hk]; rfl
  have cc6 : (x.kd == 6) = false := by rw [hk]; rfl
  have K0 := Lib.hid (Blk.new w 32 #[.int .i8 x.kd, .int .i64 x.b.pid, .int .i64 x.b.ep, .int .i64 x.b.seq, .bool x.b.txn, .slice A1 x.b.rs.length c1, .bool x.yes, .int .i64 x.nx, .int .i64 x.off, .int .i64 x.row.1, .int .i64 x.row.2.1, .int .i64 x.row.2.2.1, .string x.row.2.2.2.1, .string x.row.2.2.2.2, .int .i64 x.prod.pid, .int .i64 x.prod.ep, .int .i64 x.prod.nx, .slice D1 x.prod.seen.length e1])
  have B0 := Lib.hid (bal (Below.refl w.heap.size w) (.cells #[.int .i8 x.kd, .int .i64 x.b.pid, .int .i64 x.b.ep, .int .i64 x.b.seq, .bool x.b.txn, .slice A1 x.b.rs.length c1, .bool x.yes, .int .i64 x.nx, .int .i64 x.off, .int .i64 x.row.1, .int .i64 x.row.2.1, .int .i64 x.row.2.2.1, .string x.row.2.2.2.1, .string x.row.2.2.2.2, .int .i64 x.prod.pid, .int .i64 x.prod.ep, .int .i64 x.prod.nx, .slice D1 x.prod.seen.length e1] 32))
  clear hr hk
  generalize hsm : sameEn x (bareEn x) = sm at HM
  have HSM := Lib.hid hsm
  clear hsm
  go_enter Tryz.func14, Tryz.ntmps14
  go_upto_region 1 with (fail)
  go_region_held3 (fun W => (loadCells ⟨w.heap.size, 0, none⟩ 18).run Tryz.prog W = .ok #[.int .i8 x.kd, .int .i64 x.b.pid, .int .i64 x.b.ep, .int .i64 x.b.seq, .bool x.b.txn, .slice A1 x.b.rs.length c1, .bool x.yes, .int .i64 x.nx, .int .i64 x.off, .int .i64 x.row.1, .int .i64 x.row.2.1, .int .i64 x.row.2.2.1, .string x.row.2.2.2.1, .string x.row.2.2.2.2, .int .i64 x.prod.pid, .int .i64 x.prod.ep, .int .i64 x.prod.nx, .slice D1 x.prod.seen.length e1] W)
    (first | exact cells_blk K0.out.drew rfl | exact yL | exact zL)
    (first
      | (go_at_call 39; refine (bare_any x A1 D1 c1 e1 _ (HR.out.up (B0.out.trans (Below.refl _ _).drew))).mono ?_; rintro e w4 ⟨A9, D9, c9, e9, rfl, r9, b4⟩; have k4 := K0.out.drew.below b4 K0.out.lt; have K4 := Lib.hid k4; have yL := cells_blk k4 rfl; have B4 := Lib.hid (btrans B0.out ((Below.refl _ _).drew.trans (b4.mono (Nat.le_refl _)))); have R9 := Lib.hid r9; clear k4 b4 r9)
      | (go_at_call 16; refine (rEnSame_any x (bareEn x) A1 D1 A9 D9 c1 e1 c9 e9 _ (HR.out.up B4.out) R9.out).mono ?_; rintro e w5 ⟨rfl, b5⟩; have k5 := K4.out.below b5 K4.out.lt; have K5 := Lib.hid k5; have zL := cells_blk k5 rfl; have B5 := Lib.hid (btrans B4.out b5); clear k5 b5))
  all_goals
    rw [HSM.out]
    cases sm
    case false =>
      go_wp2_with fail
      go_ret
      exact ⟨ret_bool (by rw [HM.out]; rfl), B5.out⟩
    clear zL
    have x0 := K5.out.cell 0
    have x1 := K5.out.cell 1
    have x2 := K5.out.cell 2
    go_wp2_with fail
    refine (rproducer_any x.b.pid x.b.ep _).mono ?_
    rintro e w6 ⟨rfl, rfl⟩
    have BZ := B5
    go_wp2_with fail
    go_ret
    exact ⟨ret_bool (by rw [HM.out]; rfl), BZ.out⟩
set_option maxRecDepth 100000 in
set_option maxHeartbeats 4000000 in
theorem rEnMay_2 (x : En) (hk : x.kd = 2) (A1 D1 : Option Addr) (c1 e1 : Nat) (w : World) (hr : EnR w x A1 D1) :
    Calls Tryz.prog 14 #[(.agg #[.int .i8 x.kd, .int .i64 x.b.pid, .int .i64 x.b.ep, .int .i64 x.b.seq, .bool x.b.txn, .slice A1 x.b.rs.length c1, .bool x.yes, .int .i64 x.nx, .int .i64 x.off, .int .i64 x.row.1, .int .i64 x.row.2.1, .int .i64 x.row.2.2.1, .string x.row.2.2.2.1, .string x.row.2.2.2.2, .int .i64 x.prod.pid, .int .i64 x.prod.ep, .int .i64 x.prod.nx, .slice D1 x.prod.seen.length e1])] w fun e w' => e = .returned (.bool (mayEn x)) ∧ Below w.heap.size w w' := by
  have HR := Lib.hid hr
  have HM := Lib.hid (show mayEn x = (sameEn x (bareEn x) && (seqB x.off)) by rw [← mayR_eq x]; unfold okR; rw [hk]; rfl)
  have cc0 : (x.kd == 0) = false := by rw [hk]; rfl
  have cc1 : (x.kd == 1) = false := by rw [hk]; rfl
  have cc2 : (x.kd == 2) = true := by rw [hk]; rfl
  have cc3 : (x.kd == 3) = false := by rw [hk]; rfl
  have cc4 : (x.kd == 4) = false := by rw [hk]; rfl
  have cc5 : (x.kd == 5) = false := by rw [hk]; rfl
  have cc6 : (x.kd == 6) = false := by rw [hk]; rfl
  have K0 := Lib.hid (Blk.new w 32 #[.int .i8 x.kd, .int .i64 x.b.pid, .int .i64 x.b.ep, .int .i64 x.b.seq, .bool x.b.txn, .slice A1 x.b.rs.length c1, .bool x.yes, .int .i64 x.nx, .int .i64 x.off, .int .i64 x.row.1, .int .i64 x.row.2.1, .int .i64 x.row.2.2.1, .string x.row.2.2.2.1, .string x.row.2.2.2.2, .int .i64 x.prod.pid, .int .i64 x.prod.ep, .int .i64 x.prod.nx, .slice D1 x.prod.seen.length e1])
  have B0 := Lib.hid (bal (Below.refl w.heap.size w) (.cells #[.int .i8 x.kd, .int .i64 x.b.pid, .int .i64 x.b.ep, .int .i64 x.b.seq, .bool x.b.txn, .slice A1 x.b.rs.length c1, .bool x.yes, .int .i64 x.nx, .int .i64 x.off, .int .i64 x.row.1, .int .i64 x.row.2.1, .int .i64 x.row.2.2.1, .string x.row.2.2.2.1, .string x.row.2.2.2.2, .int .i64 x.prod.pid, .int .i64 x.prod.ep, .int .i64 x.prod.nx, .slice D1 x.prod.seen.length e1] 32))
  clear hr hk
  generalize hsm : sameEn x (bareEn x) = sm at HM
  have HSM := Lib.hid hsm
  clear hsm
  go_enter Tryz.func14, Tryz.ntmps14
  go_upto_region 1 with (fail)
  go_region_held3 (fun W => (loadCells ⟨w.heap.size, 0, none⟩ 18).run Tryz.prog W = .ok #[.int .i8 x.kd, .int .i64 x.b.pid, .int .i64 x.b.ep, .int .i64 x.b.seq, .bool x.b.txn, .slice A1 x.b.rs.length c1, .bool x.yes, .int .i64 x.nx, .int .i64 x.off, .int .i64 x.row.1, .int .i64 x.row.2.1, .int .i64 x.row.2.2.1, .string x.row.2.2.2.1, .string x.row.2.2.2.2, .int .i64 x.prod.pid, .int .i64 x.prod.ep, .int .i64 x.prod.nx, .slice D1 x.prod.seen.length e1] W)
    (first | exact cells_blk K0.out.drew rfl | exact yL | exact zL)
    (first
      | (go_at_call 39; refine (bare_any x A1 D1 c1 e1 _ (HR.out.up (B0.out.trans (Below.refl _ _).drew))).mono ?_; rintro e w4 ⟨A9, D9, c9, e9, rfl, r9, b4⟩; have k4 := K0.out.drew.below b4 K0.out.lt; have K4 := Lib.hid k4; have yL := cells_blk k4 rfl; have B4 := Lib.hid (btrans B0.out ((Below.refl _ _).drew.trans (b4.mono (Nat.le_refl _)))); have R9 := Lib.hid r9; clear k4 b4 r9)
      | (go_at_call 16; refine (rEnSame_any x (bareEn x) A1 D1 A9 D9 c1 e1 c9 e9 _ (HR.out.up B4.out) R9.out).mono ?_; rintro e w5 ⟨rfl, b5⟩; have k5 := K4.out.below b5 K4.out.lt; have K5 := Lib.hid k5; have zL := cells_blk k5 rfl; have B5 := Lib.hid (btrans B4.out b5); clear k5 b5))
  all_goals
    rw [HSM.out]
    cases sm
    case false =>
      go_wp2_with fail
      go_ret
      exact ⟨ret_bool (by rw [HM.out]; rfl), B5.out⟩
    clear zL
    have x0 := K5.out.cell 0
    have x8 := K5.out.cell 8
    go_wp2_with fail
    refine (withinS_any x.off _).mono ?_
    rintro e w6 ⟨rfl, rfl⟩
    have BZ := B5
    go_wp2_with fail
    go_ret
    exact ⟨ret_bool (by rw [HM.out]; rfl), BZ.out⟩
set_option maxRecDepth 100000 in
set_option maxHeartbeats 4000000 in
theorem rEnMay_5 (x : En) (hk : x.kd = 5) (A1 D1 : Option Addr) (c1 e1 : Nat) (w : World) (hr : EnR w x A1 D1) :
    Calls Tryz.prog 14 #[(.agg #[.int .i8 x.kd, .int .i64 x.b.pid, .int .i64 x.b.ep, .int .i64 x.b.seq, .bool x.b.txn, .slice A1 x.b.rs.length c1, .bool x.yes, .int .i64 x.nx, .int .i64 x.off, .int .i64 x.row.1, .int .i64 x.row.2.1, .int .i64 x.row.2.2.1, .string x.row.2.2.2.1, .string x.row.2.2.2.2, .int .i64 x.prod.pid, .int .i64 x.prod.ep, .int .i64 x.prod.nx, .slice D1 x.prod.seen.length e1])] w fun e w' => e = .returned (.bool (mayEn x)) ∧ Below w.heap.size w w' := by
  have HR := Lib.hid hr
  have HM := Lib.hid (show mayEn x = (sameEn x (bareEn x) && (rowB (0, x.row.2.1, x.row.2.2.1, x.row.2.2.2.1, x.row.2.2.2.2))) by rw [← mayR_eq x]; unfold okR; rw [hk]; rfl)
  have cc0 : (x.kd == 0) = false := by rw [hk]; rfl
  have cc1 : (x.kd == 1) = false := by rw [hk]; rfl
  have cc2 : (x.kd == 2) = false := by rw [hk]; rfl
  have cc3 : (x.kd == 3) = false := by rw [hk]; rfl
  have cc4 : (x.kd == 4) = false := by rw [hk]; rfl
  have cc5 : (x.kd == 5) = true := by rw [hk]; rfl
  have cc6 : (x.kd == 6) = false := by rw [hk]; rfl
  have K0 := Lib.hid (Blk.new w 32 #[.int .i8 x.kd, .int .i64 x.b.pid, .int .i64 x.b.ep, .int .i64 x.b.seq, .bool x.b.txn, .slice A1 x.b.rs.length c1, .bool x.yes, .int .i64 x.nx, .int .i64 x.off, .int .i64 x.row.1, .int .i64 x.row.2.1, .int .i64 x.row.2.2.1, .string x.row.2.2.2.1, .string x.row.2.2.2.2, .int .i64 x.prod.pid, .int .i64 x.prod.ep, .int .i64 x.prod.nx, .slice D1 x.prod.seen.length e1])
  have B0 := Lib.hid (bal (Below.refl w.heap.size w) (.cells #[.int .i8 x.kd, .int .i64 x.b.pid, .int .i64 x.b.ep, .int .i64 x.b.seq, .bool x.b.txn, .slice A1 x.b.rs.length c1, .bool x.yes, .int .i64 x.nx, .int .i64 x.off, .int .i64 x.row.1, .int .i64 x.row.2.1, .int .i64 x.row.2.2.1, .string x.row.2.2.2.1, .string x.row.2.2.2.2, .int .i64 x.prod.pid, .int .i64 x.prod.ep, .int .i64 x.prod.nx, .slice D1 x.prod.seen.length e1] 32))
  clear hr hk
  generalize hsm : sameEn x (bareEn x) = sm at HM
  have HSM := Lib.hid hsm
  clear hsm
  go_enter Tryz.func14, Tryz.ntmps14
  go_upto_region 1 with (fail)
  go_region_held3 (fun W => (loadCells ⟨w.heap.size, 0, none⟩ 18).run Tryz.prog W = .ok #[.int .i8 x.kd, .int .i64 x.b.pid, .int .i64 x.b.ep, .int .i64 x.b.seq, .bool x.b.txn, .slice A1 x.b.rs.length c1, .bool x.yes, .int .i64 x.nx, .int .i64 x.off, .int .i64 x.row.1, .int .i64 x.row.2.1, .int .i64 x.row.2.2.1, .string x.row.2.2.2.1, .string x.row.2.2.2.2, .int .i64 x.prod.pid, .int .i64 x.prod.ep, .int .i64 x.prod.nx, .slice D1 x.prod.seen.length e1] W)
    (first | exact cells_blk K0.out.drew rfl | exact yL | exact zL)
    (first
      | (go_at_call 39; refine (bare_any x A1 D1 c1 e1 _ (HR.out.up (B0.out.trans (Below.refl _ _).drew))).mono ?_; rintro e w4 ⟨A9, D9, c9, e9, rfl, r9, b4⟩; have k4 := K0.out.drew.below b4 K0.out.lt; have K4 := Lib.hid k4; have yL := cells_blk k4 rfl; have B4 := Lib.hid (btrans B0.out ((Below.refl _ _).drew.trans (b4.mono (Nat.le_refl _)))); have R9 := Lib.hid r9; clear k4 b4 r9)
      | (go_at_call 16; refine (rEnSame_any x (bareEn x) A1 D1 A9 D9 c1 e1 c9 e9 _ (HR.out.up B4.out) R9.out).mono ?_; rintro e w5 ⟨rfl, b5⟩; have k5 := K4.out.below b5 K4.out.lt; have K5 := Lib.hid k5; have zL := cells_blk k5 rfl; have B5 := Lib.hid (btrans B4.out b5); clear k5 b5))
  all_goals
    rw [HSM.out]
    cases sm
    case false =>
      go_wp2_with fail
      go_ret
      exact ⟨ret_bool (by rw [HM.out]; rfl), B5.out⟩
    clear zL
    have x0 := K5.out.cell 0
    have LB := cells_off K5.out 9 5 rfl rfl
    go_wp2_with fail
    refine (MayRow_any x.row _).mono ?_
    rintro e w6 ⟨rfl, b6⟩
    have BZ := Lib.hid (btrans B5.out b6)
    go_wp2_with fail
    go_ret
    exact ⟨ret_bool (by rw [HM.out]; rfl), BZ.out⟩
set_option maxRecDepth 100000 in
set_option maxHeartbeats 4000000 in
theorem rEnMay_6 (x : En) (hk : x.kd = 6) (A1 D1 : Option Addr) (c1 e1 : Nat) (w : World) (hr : EnR w x A1 D1) :
    Calls Tryz.prog 14 #[(.agg #[.int .i8 x.kd, .int .i64 x.b.pid, .int .i64 x.b.ep, .int .i64 x.b.seq, .bool x.b.txn, .slice A1 x.b.rs.length c1, .bool x.yes, .int .i64 x.nx, .int .i64 x.off, .int .i64 x.row.1, .int .i64 x.row.2.1, .int .i64 x.row.2.2.1, .string x.row.2.2.2.1, .string x.row.2.2.2.2, .int .i64 x.prod.pid, .int .i64 x.prod.ep, .int .i64 x.prod.nx, .slice D1 x.prod.seen.length e1])] w fun e w' => e = .returned (.bool (mayEn x)) ∧ Below w.heap.size w w' := by
  have HR := Lib.hid hr
  have HM := Lib.hid (show mayEn x = (sameEn x (bareEn x) && (knownB x.prod)) by rw [← mayR_eq x]; unfold okR; rw [hk]; rfl)
  have cc0 : (x.kd == 0) = false := by rw [hk]; rfl
  have cc1 : (x.kd == 1) = false := by rw [hk]; rfl
  have cc2 : (x.kd == 2) = false := by rw [hk]; rfl
  have cc3 : (x.kd == 3) = false := by rw [hk]; rfl
  have cc4 : (x.kd == 4) = false := by rw [hk]; rfl
  have cc5 : (x.kd == 5) = false := by rw [hk]; rfl
  have cc6 : (x.kd == 6) = true := by rw [hk]; rfl
  have K0 := Lib.hid (Blk.new w 32 #[.int .i8 x.kd, .int .i64 x.b.pid, .int .i64 x.b.ep, .int .i64 x.b.seq, .bool x.b.txn, .slice A1 x.b.rs.length c1, .bool x.yes, .int .i64 x.nx, .int .i64 x.off, .int .i64 x.row.1, .int .i64 x.row.2.1, .int .i64 x.row.2.2.1, .string x.row.2.2.2.1, .string x.row.2.2.2.2, .int .i64 x.prod.pid, .int .i64 x.prod.ep, .int .i64 x.prod.nx, .slice D1 x.prod.seen.length e1])
  have B0 := Lib.hid (bal (Below.refl w.heap.size w) (.cells #[.int .i8 x.kd, .int .i64 x.b.pid, .int .i64 x.b.ep, .int .i64 x.b.seq, .bool x.b.txn, .slice A1 x.b.rs.length c1, .bool x.yes, .int .i64 x.nx, .int .i64 x.off, .int .i64 x.row.1, .int .i64 x.row.2.1, .int .i64 x.row.2.2.1, .string x.row.2.2.2.1, .string x.row.2.2.2.2, .int .i64 x.prod.pid, .int .i64 x.prod.ep, .int .i64 x.prod.nx, .slice D1 x.prod.seen.length e1] 32))
  clear hr hk
  generalize hsm : sameEn x (bareEn x) = sm at HM
  have HSM := Lib.hid hsm
  clear hsm
  go_enter Tryz.func14, Tryz.ntmps14
  go_upto_region 1 with (fail)
  go_region_held3 (fun W => (loadCells ⟨w.heap.size, 0, none⟩ 18).run Tryz.prog W = .ok #[.int .i8 x.kd, .int .i64 x.b.pid, .int .i64 x.b.ep, .int .i64 x.b.seq, .bool x.b.txn, .slice A1 x.b.rs.length c1, .bool x.yes, .int .i64 x.nx, .int .i64 x.off, .int .i64 x.row.1, .int .i64 x.row.2.1, .int .i64 x.row.2.2.1, .string x.row.2.2.2.1, .string x.row.2.2.2.2, .int .i64 x.prod.pid, .int .i64 x.prod.ep, .int .i64 x.prod.nx, .slice D1 x.prod.seen.length e1] W)
    (first | exact cells_blk K0.out.drew rfl | exact yL | exact zL)
    (first
      | (go_at_call 39; refine (bare_any x A1 D1 c1 e1 _ (HR.out.up (B0.out.trans (Below.refl _ _).drew))).mono ?_; rintro e w4 ⟨A9, D9, c9, e9, rfl, r9, b4⟩; have k4 := K0.out.drew.below b4 K0.out.lt; have K4 := Lib.hid k4; have yL := cells_blk k4 rfl; have B4 := Lib.hid (btrans B0.out ((Below.refl _ _).drew.trans (b4.mono (Nat.le_refl _)))); have R9 := Lib.hid r9; clear k4 b4 r9)
      | (go_at_call 16; refine (rEnSame_any x (bareEn x) A1 D1 A9 D9 c1 e1 c9 e9 _ (HR.out.up B4.out) R9.out).mono ?_; rintro e w5 ⟨rfl, b5⟩; have k5 := K4.out.below b5 K4.out.lt; have K5 := Lib.hid k5; have zL := cells_blk k5 rfl; have B5 := Lib.hid (btrans B4.out b5); clear k5 b5))
  all_goals
    rw [HSM.out]
    cases sm
    case false =>
      go_wp2_with fail
      go_ret
      exact ⟨ret_bool (by rw [HM.out]; rfl), B5.out⟩
    clear zL
    have x0 := K5.out.cell 0
    have LB := cells_off K5.out 14 4 rfl rfl
    go_wp2_with fail
    refine (rKnown_any x.prod D1 e1 _ (HR.out.up B5.out).2.1).mono ?_
    rintro e w6 ⟨rfl, b6⟩
    have BZ := Lib.hid (btrans B5.out b6)
    go_wp2_with fail
    go_ret
    exact ⟨ret_bool (by rw [HM.out]; rfl), BZ.out⟩
set_option maxRecDepth 100000 in
set_option maxHeartbeats 4000000 in
theorem rEnMay_3 (x : En) (hk : x.kd = 3) (A1 D1 : Option Addr) (c1 e1 : Nat) (w : World) (hr : EnR w x A1 D1) :
    Calls Tryz.prog 14 #[(.agg #[.int .i8 x.kd, .int .i64 x.b.pid, .int .i64 x.b.ep, .int .i64 x.b.seq, .bool x.b.txn, .slice A1 x.b.rs.length c1, .bool x.yes, .int .i64 x.nx, .int .i64 x.off, .int .i64 x.row.1, .int .i64 x.row.2.1, .int .i64 x.row.2.2.1, .string x.row.2.2.2.1, .string x.row.2.2.2.2, .int .i64 x.prod.pid, .int .i64 x.prod.ep, .int .i64 x.prod.nx, .slice D1 x.prod.seen.length e1])] w fun e w' => e = .returned (.bool (mayEn x)) ∧ Below w.heap.size w w' := by
  have HR := Lib.hid hr
  have HM := Lib.hid (show mayEn x = (sameEn x (bareEn x) && (mayBt x.b && (x.b.txn && seqB x.nx))) by rw [← mayR_eq x]; unfold okR; rw [hk]; rfl)
  have cc0 : (x.kd == 0) = false := by rw [hk]; rfl
  have cc1 : (x.kd == 1) = false := by rw [hk]; rfl
  have cc2 : (x.kd == 2) = false := by rw [hk]; rfl
  have cc3 : (x.kd == 3) = true := by rw [hk]; rfl
  have cc4 : (x.kd == 4) = false := by rw [hk]; rfl
  have cc5 : (x.kd == 5) = false := by rw [hk]; rfl
  have cc6 : (x.kd == 6) = false := by rw [hk]; rfl
  have K0 := Lib.hid (Blk.new w 32 #[.int .i8 x.kd, .int .i64 x.b.pid, .int .i64 x.b.ep, .int .i64 x.b.seq, .bool x.b.txn, .slice A1 x.b.rs.length c1, .bool x.yes, .int .i64 x.nx, .int .i64 x.off, .int .i64 x.row.1, .int .i64 x.row.2.1, .int .i64 x.row.2.2.1, .string x.row.2.2.2.1, .string x.row.2.2.2.2, .int .i64 x.prod.pid, .int .i64 x.prod.ep, .int .i64 x.prod.nx, .slice D1 x.prod.seen.length e1])
  have B0 := Lib.hid (bal (Below.refl w.heap.size w) (.cells #[.int .i8 x.kd, .int .i64 x.b.pid, .int .i64 x.b.ep, .int .i64 x.b.seq, .bool x.b.txn, .slice A1 x.b.rs.length c1, .bool x.yes, .int .i64 x.nx, .int .i64 x.off, .int .i64 x.row.1, .int .i64 x.row.2.1, .int .i64 x.row.2.2.1, .string x.row.2.2.2.1, .string x.row.2.2.2.2, .int .i64 x.prod.pid, .int .i64 x.prod.ep, .int .i64 x.prod.nx, .slice D1 x.prod.seen.length e1] 32))
  clear hr hk
  generalize hsm : sameEn x (bareEn x) = sm at HM
  have HSM := Lib.hid hsm
  clear hsm
  go_enter Tryz.func14, Tryz.ntmps14
  go_upto_region 1 with (fail)
  go_region_held3 (fun W => (loadCells ⟨w.heap.size, 0, none⟩ 18).run Tryz.prog W = .ok #[.int .i8 x.kd, .int .i64 x.b.pid, .int .i64 x.b.ep, .int .i64 x.b.seq, .bool x.b.txn, .slice A1 x.b.rs.length c1, .bool x.yes, .int .i64 x.nx, .int .i64 x.off, .int .i64 x.row.1, .int .i64 x.row.2.1, .int .i64 x.row.2.2.1, .string x.row.2.2.2.1, .string x.row.2.2.2.2, .int .i64 x.prod.pid, .int .i64 x.prod.ep, .int .i64 x.prod.nx, .slice D1 x.prod.seen.length e1] W)
    (first | exact cells_blk K0.out.drew rfl | exact yL | exact zL)
    (first
      | (go_at_call 39; refine (bare_any x A1 D1 c1 e1 _ (HR.out.up (B0.out.trans (Below.refl _ _).drew))).mono ?_; rintro e w4 ⟨A9, D9, c9, e9, rfl, r9, b4⟩; have k4 := K0.out.drew.below b4 K0.out.lt; have K4 := Lib.hid k4; have yL := cells_blk k4 rfl; have B4 := Lib.hid (btrans B0.out ((Below.refl _ _).drew.trans (b4.mono (Nat.le_refl _)))); have R9 := Lib.hid r9; clear k4 b4 r9)
      | (go_at_call 16; refine (rEnSame_any x (bareEn x) A1 D1 A9 D9 c1 e1 c9 e9 _ (HR.out.up B4.out) R9.out).mono ?_; rintro e w5 ⟨rfl, b5⟩; have k5 := K4.out.below b5 K4.out.lt; have K5 := Lib.hid k5; have zL := cells_blk k5 rfl; have B5 := Lib.hid (btrans B4.out b5); clear k5 b5))
  all_goals
    rw [HSM.out]
    cases sm
    case false =>
      go_wp2_with fail
      go_ret
      exact ⟨ret_bool (by rw [HM.out]; rfl), B5.out⟩
    clear zL
    have x0 := K5.out.cell 0
    have LB := cells_off K5.out 1 5 rfl rfl
    generalize hmb : mayBt x.b = mb at HM
    have HMB := Lib.hid hmb
    clear hmb
    go_wp2_with fail
    refine (rRcMay_any x.b A1 c1 _ (HR.out.up B5.out).1).mono ?_
    rintro e w6 ⟨rfl, b6⟩
    rw [HMB.out]
    have K6 := Lib.hid (K5.out.below b6 K5.out.lt)
    have BZ := Lib.hid (btrans B5.out b6)
    clear b6 LB x0
    have x4 := K6.out.cell 4
    have x7 := K6.out.cell 7
    obtain ⟨tt, htt⟩ : ∃ tt, x.b.txn = tt := ⟨_, rfl⟩
    rw [htt] at x4 HM
    clear htt
    cases mb
    case false =>
      go_wp2_with fail
      go_ret
      exact ⟨ret_bool (by rw [HM.out]; rfl), BZ.out⟩
    cases tt
    case false =>
      go_wp2_with fail
      go_ret
      exact ⟨ret_bool (by rw [HM.out]; rfl), BZ.out⟩
    go_wp2_with fail
    refine (withinS_any x.nx _).mono ?_
    rintro e w7 ⟨rfl, rfl⟩
    go_wp2_with fail
    go_ret
    exact ⟨ret_bool (by rw [HM.out]; rfl), BZ.out⟩
set_option maxRecDepth 100000 in
set_option maxHeartbeats 4000000 in
theorem rEnMay_4 (x : En) (hk : x.kd = 4) (A1 D1 : Option Addr) (c1 e1 : Nat) (w : World) (hr : EnR w x A1 D1) :
    Calls Tryz.prog 14 #[(.agg #[.int .i8 x.kd, .int .i64 x.b.pid, .int .i64 x.b.ep, .int .i64 x.b.seq, .bool x.b.txn, .slice A1 x.b.rs.length c1, .bool x.yes, .int .i64 x.nx, .int .i64 x.off, .int .i64 x.row.1, .int .i64 x.row.2.1, .int .i64 x.row.2.2.1, .string x.row.2.2.2.1, .string x.row.2.2.2.2, .int .i64 x.prod.pid, .int .i64 x.prod.ep, .int .i64 x.prod.nx, .slice D1 x.prod.seen.length e1])] w fun e w' => e = .returned (.bool (mayEn x)) ∧ Below w.heap.size w w' := by
  have HR := Lib.hid hr
  have HM := Lib.hid (show mayEn x = (sameEn x (bareEn x) && (prodB x.b.pid x.b.ep && seqB x.nx)) by rw [← mayR_eq x]; unfold okR; rw [hk]; rfl)
  have cc0 : (x.kd == 0) = false := by rw [hk]; rfl
  have cc1 : (x.kd == 1) = false := by rw [hk]; rfl
  have cc2 : (x.kd == 2) = false := by rw [hk]; rfl
  have cc3 : (x.kd == 3) = false := by rw [hk]; rfl
  have cc4 : (x.kd == 4) = true := by rw [hk]; rfl
  have cc5 : (x.kd == 5) = false := by rw [hk]; rfl
  have cc6 : (x.kd == 6) = false := by rw [hk]; rfl
  have K0 := Lib.hid (Blk.new w 32 #[.int .i8 x.kd, .int .i64 x.b.pid, .int .i64 x.b.ep, .int .i64 x.b.seq, .bool x.b.txn, .slice A1 x.b.rs.length c1, .bool x.yes, .int .i64 x.nx, .int .i64 x.off, .int .i64 x.row.1, .int .i64 x.row.2.1, .int .i64 x.row.2.2.1, .string x.row.2.2.2.1, .string x.row.2.2.2.2, .int .i64 x.prod.pid, .int .i64 x.prod.ep, .int .i64 x.prod.nx, .slice D1 x.prod.seen.length e1])
  have B0 := Lib.hid (bal (Below.refl w.heap.size w) (.cells #[.int .i8 x.kd, .int .i64 x.b.pid, .int .i64 x.b.ep, .int .i64 x.b.seq, .bool x.b.txn, .slice A1 x.b.rs.length c1, .bool x.yes, .int .i64 x.nx, .int .i64 x.off, .int .i64 x.row.1, .int .i64 x.row.2.1, .int .i64 x.row.2.2.1, .string x.row.2.2.2.1, .string x.row.2.2.2.2, .int .i64 x.prod.pid, .int .i64 x.prod.ep, .int .i64 x.prod.nx, .slice D1 x.prod.seen.length e1] 32))
  clear hr hk
  generalize hsm : sameEn x (bareEn x) = sm at HM
  have HSM := Lib.hid hsm
  clear hsm
  go_enter Tryz.func14, Tryz.ntmps14
  go_upto_region 1 with (fail)
  go_region_held3 (fun W => (loadCells ⟨w.heap.size, 0, none⟩ 18).run Tryz.prog W = .ok #[.int .i8 x.kd, .int .i64 x.b.pid, .int .i64 x.b.ep, .int .i64 x.b.seq, .bool x.b.txn, .slice A1 x.b.rs.length c1, .bool x.yes, .int .i64 x.nx, .int .i64 x.off, .int .i64 x.row.1, .int .i64 x.row.2.1, .int .i64 x.row.2.2.1, .string x.row.2.2.2.1, .string x.row.2.2.2.2, .int .i64 x.prod.pid, .int .i64 x.prod.ep, .int .i64 x.prod.nx, .slice D1 x.prod.seen.length e1] W)
    (first | exact cells_blk K0.out.drew rfl | exact yL | exact zL)
    (first
      | (go_at_call 39; refine (bare_any x A1 D1 c1 e1 _ (HR.out.up (B0.out.trans (Below.refl _ _).drew))).mono ?_; rintro e w4 ⟨A9, D9, c9, e9, rfl, r9, b4⟩; have k4 := K0.out.drew.below b4 K0.out.lt; have K4 := Lib.hid k4; have yL := cells_blk k4 rfl; have B4 := Lib.hid (btrans B0.out ((Below.refl _ _).drew.trans (b4.mono (Nat.le_refl _)))); have R9 := Lib.hid r9; clear k4 b4 r9)
      | (go_at_call 16; refine (rEnSame_any x (bareEn x) A1 D1 A9 D9 c1 e1 c9 e9 _ (HR.out.up B4.out) R9.out).mono ?_; rintro e w5 ⟨rfl, b5⟩; have k5 := K4.out.below b5 K4.out.lt; have K5 := Lib.hid k5; have zL := cells_blk k5 rfl; have B5 := Lib.hid (btrans B4.out b5); clear k5 b5))
  all_goals
    rw [HSM.out]
    cases sm
    case false =>
      go_wp2_with fail
      go_ret
      exact ⟨ret_bool (by rw [HM.out]; rfl), B5.out⟩
    clear zL
    have x0 := K5.out.cell 0
    have x1 := K5.out.cell 1
    have x2 := K5.out.cell 2
    have x7 := K5.out.cell 7
    generalize hmb : prodB x.b.pid x.b.ep = mb at HM
    have HMB := Lib.hid hmb
    clear hmb
    go_wp2_with fail
    refine (rproducer_any x.b.pid x.b.ep _).mono ?_
    rintro e w6 ⟨rfl, rfl⟩
    rw [HMB.out]
    cases mb
    case false =>
      go_wp2_with fail
      go_ret
      exact ⟨ret_bool (by rw [HM.out]; rfl), B5.out⟩
    go_wp2_with fail
    refine (withinS_any x.nx _).mono ?_
    rintro e w7 ⟨rfl, rfl⟩
    go_wp2_with fail
    go_ret
    exact ⟨ret_bool (by rw [HM.out]; rfl), B5.out⟩
set_option maxRecDepth 100000 in
set_option maxHeartbeats 4000000 in
theorem rEnMay_9 (x : En) (h0 : ¬ x.kd = 0) (h1 : ¬ x.kd = 1) (h2 : ¬ x.kd = 2) (h3 : ¬ x.kd = 3) (h4 : ¬ x.kd = 4) (h5 : ¬ x.kd = 5) (h6 : ¬ x.kd = 6) (A1 D1 : Option Addr) (c1 e1 : Nat) (w : World) (hr : EnR w x A1 D1) :
    Calls Tryz.prog 14 #[(.agg #[.int .i8 x.kd, .int .i64 x.b.pid, .int .i64 x.b.ep, .int .i64 x.b.seq, .bool x.b.txn, .slice A1 x.b.rs.length c1, .bool x.yes, .int .i64 x.nx, .int .i64 x.off, .int .i64 x.row.1, .int .i64 x.row.2.1, .int .i64 x.row.2.2.1, .string x.row.2.2.2.1, .string x.row.2.2.2.2, .int .i64 x.prod.pid, .int .i64 x.prod.ep, .int .i64 x.prod.nx, .slice D1 x.prod.seen.length e1])] w fun e w' => e = .returned (.bool (mayEn x)) ∧ Below w.heap.size w w' := by
  have HR := Lib.hid hr
  have HM := Lib.hid (show mayEn x = (sameEn x (bareEn x) && (false)) by rw [← mayR_eq x]; unfold okR; rw [if_neg h0, if_neg h1, if_neg h2, if_neg h3, if_neg h4, if_neg h5, if_neg h6])
  have cc0 : (x.kd == 0) = false := by simpa using h0
  have cc1 : (x.kd == 1) = false := by simpa using h1
  have cc2 : (x.kd == 2) = false := by simpa using h2
  have cc3 : (x.kd == 3) = false := by simpa using h3
  have cc4 : (x.kd == 4) = false := by simpa using h4
  have cc5 : (x.kd == 5) = false := by simpa using h5
  have cc6 : (x.kd == 6) = false := by simpa using h6
  have K0 := Lib.hid (Blk.new w 32 #[.int .i8 x.kd, .int .i64 x.b.pid, .int .i64 x.b.ep, .int .i64 x.b.seq, .bool x.b.txn, .slice A1 x.b.rs.length c1, .bool x.yes, .int .i64 x.nx, .int .i64 x.off, .int .i64 x.row.1, .int .i64 x.row.2.1, .int .i64 x.row.2.2.1, .string x.row.2.2.2.1, .string x.row.2.2.2.2, .int .i64 x.prod.pid, .int .i64 x.prod.ep, .int .i64 x.prod.nx, .slice D1 x.prod.seen.length e1])
  have B0 := Lib.hid (bal (Below.refl w.heap.size w) (.cells #[.int .i8 x.kd, .int .i64 x.b.pid, .int .i64 x.b.ep, .int .i64 x.b.seq, .bool x.b.txn, .slice A1 x.b.rs.length c1, .bool x.yes, .int .i64 x.nx, .int .i64 x.off, .int .i64 x.row.1, .int .i64 x.row.2.1, .int .i64 x.row.2.2.1, .string x.row.2.2.2.1, .string x.row.2.2.2.2, .int .i64 x.prod.pid, .int .i64 x.prod.ep, .int .i64 x.prod.nx, .slice D1 x.prod.seen.length e1] 32))
  clear hr h0 h1 h2 h3 h4 h5 h6
  generalize hsm : sameEn x (bareEn x) = sm at HM
  have HSM := Lib.hid hsm
  clear hsm
  go_enter Tryz.func14, Tryz.ntmps14
  go_upto_region 1 with (fail)
  go_region_held3 (fun W => (loadCells ⟨w.heap.size, 0, none⟩ 18).run Tryz.prog W = .ok #[.int .i8 x.kd, .int .i64 x.b.pid, .int .i64 x.b.ep, .int .i64 x.b.seq, .bool x.b.txn, .slice A1 x.b.rs.length c1, .bool x.yes, .int .i64 x.nx, .int .i64 x.off, .int .i64 x.row.1, .int .i64 x.row.2.1, .int .i64 x.row.2.2.1, .string x.row.2.2.2.1, .string x.row.2.2.2.2, .int .i64 x.prod.pid, .int .i64 x.prod.ep, .int .i64 x.prod.nx, .slice D1 x.prod.seen.length e1] W)
    (first | exact cells_blk K0.out.drew rfl | exact yL | exact zL)
    (first
      | (go_at_call 39; refine (bare_any x A1 D1 c1 e1 _ (HR.out.up (B0.out.trans (Below.refl _ _).drew))).mono ?_; rintro e w4 ⟨A9, D9, c9, e9, rfl, r9, b4⟩; have k4 := K0.out.drew.below b4 K0.out.lt; have K4 := Lib.hid k4; have yL := cells_blk k4 rfl; have B4 := Lib.hid (btrans B0.out ((Below.refl _ _).drew.trans (b4.mono (Nat.le_refl _)))); have R9 := Lib.hid r9; clear k4 b4 r9)
      | (go_at_call 16; refine (rEnSame_any x (bareEn x) A1 D1 A9 D9 c1 e1 c9 e9 _ (HR.out.up B4.out) R9.out).mono ?_; rintro e w5 ⟨rfl, b5⟩; have k5 := K4.out.below b5 K4.out.lt; have K5 := Lib.hid k5; have zL := cells_blk k5 rfl; have B5 := Lib.hid (btrans B4.out b5); clear k5 b5))
  all_goals
    rw [HSM.out]
    cases sm
    case false =>
      go_wp2_with fail
      go_ret
      exact ⟨ret_bool (by rw [HM.out]; rfl), B5.out⟩
    clear zL
    have x0 := K5.out.cell 0
    go_wp2_with fail
    go_ret
    exact ⟨ret_bool (by rw [HM.out]; rfl), B5.out⟩
end
theorem rEnMay_any (x : En) (A1 D1 : Option Addr) (c1 e1 : Nat) (w : World) (hr : EnR w x A1 D1) :
    Calls Tryz.prog 14 #[(.agg #[.int .i8 x.kd, .int .i64 x.b.pid, .int .i64 x.b.ep, .int .i64 x.b.seq, .bool x.b.txn, .slice A1 x.b.rs.length c1, .bool x.yes, .int .i64 x.nx, .int .i64 x.off, .int .i64 x.row.1, .int .i64 x.row.2.1, .int .i64 x.row.2.2.1, .string x.row.2.2.2.1, .string x.row.2.2.2.2, .int .i64 x.prod.pid, .int .i64 x.prod.ep, .int .i64 x.prod.nx, .slice D1 x.prod.seen.length e1])] w fun e w' => e = .returned (.bool (mayEn x)) ∧ Below w.heap.size w w' := by
  by_cases h0 : x.kd = 0
  · exact rEnMay_0 x h0 A1 D1 c1 e1 w hr
  by_cases h1 : x.kd = 1
  · exact rEnMay_1 x h1 A1 D1 c1 e1 w hr
  by_cases h2 : x.kd = 2
  · exact rEnMay_2 x h2 A1 D1 c1 e1 w hr
  by_cases h3 : x.kd = 3
  · exact rEnMay_3 x h3 A1 D1 c1 e1 w hr
  by_cases h4 : x.kd = 4
  · exact rEnMay_4 x h4 A1 D1 c1 e1 w hr
  by_cases h5 : x.kd = 5
  · exact rEnMay_5 x h5 A1 D1 c1 e1 w hr
  by_cases h6 : x.kd = 6
  · exact rEnMay_6 x h6 A1 D1 c1 e1 w hr
  exact rEnMay_9 x h0 h1 h2 h3 h4 h5 h6 A1 D1 c1 e1 w hr
end Go.Proofs.YtckdecodpjfcnaaGreatDoor
namespace Go.Proofs.YtckdecodpjfcnaaGreatDoor
open Go.RowKit

/-- What a function leaves that hands back bytes. -/
def NmPost (L : List UInt8) (w : World) (e : Ending) (w' : World) : Prop := ∃ A c, e = .returned (.slice A L.length c) ∧ Reads w' w'.heap.size 1 A L.length (cellsB L) ∧ Below w.heap.size w w'
theorem nums_len : ∀ (m : List Int), (∀ z ∈ m, 0 ≤ z ∧ z ≤ 1048577) → (m.flatMap fun z => enc z.toNat).length ≤ 3 * m.length
  | [], _ => Nat.le_refl _
  | z :: m, hm => by
    rw [List.flatMap_cons, List.length_append, List.length_cons]
    have h1 := enc_len3x z.toNat (by have := hm z (List.mem_cons_self ..); omega)
    have h2 := nums_len m fun y hy => hm y (List.mem_cons_of_mem _ hy)
    omega
set_option maxRecDepth 100000 in
set_option maxHeartbeats 2000000 in
theorem rnumbers_any (A : Option Addr) (l : List UInt8) (c b : Nat) (ns : List Int) (cz : Nat) (w : World) (hr : Reads w w.heap.size 1 A l.length (cellsB l)) (hb : b < w.heap.size) (hc : ∀ j z, ns[j]? = some z → w.cell? ⟨b, j, none⟩ = some (.int .i64 z)) (hn : ∀ z ∈ ns, 0 ≤ z ∧ z ≤ 1048577) (hl : l.length + 3 * ns.length ≤ 20000) :
    Calls Tryz.prog 32 #[.slice A l.length c, .slice (some ⟨b, 0, none⟩) ns.length cz] w (NmPost (l ++ ns.flatMap fun z => enc z.toNat) w) := by
  have HC := Lib.hid hc
  have HN := Lib.hid hn
  have HR := Lib.hid hr
  have hlen : ∀ k, (l ++ (ns.take k).flatMap fun z => enc z.toNat).length ≤ l.length + 3 * ns.length := fun k => by
    rw [List.length_append]
    have := nums_len (ns.take k) (fun z hz => hn z (List.mem_of_mem_take hz))
    have h2 : (ns.take k).length ≤ ns.length := by rw [List.length_take]; omega
    omega
  have HLEN := Lib.hid hlen
  clear hr hc hn hlen
  go_enter Tryz.func32, Tryz.ntmps32
  go_wp2_with fail
  go_loopw [0, 5] (fun v x wr => ∃ (k : Nat) (A : Option Addr) (c : Nat) (L : List UInt8), k ≤ ns.length ∧ x = .int .i64 k ∧ L = l ++ (ns.take k).flatMap (fun z => enc z.toNat) ∧ v = .slice A L.length c ∧ Reads wr wr.heap.size 1 A L.length (cellsB L) ∧ Below w.heap.size w wr) (fun _ x _ => ns.length - (intOf x).toNat)
  case atStart => exact ⟨0, A, c, l, Nat.zero_le _, rfl, by simp, rfl, HR.out, Below.refl _ _⟩
  case round =>
    obtain ⟨k, A, c, L, hk, rfl, hL, rfl, hrd, hbel⟩ := hrel
    have RD := Lib.hid hrd
    have BEL := Lib.hid hbel
    have HL := Lib.hid hL
    have hll : L.length ≤ 20000 := by have := HLEN.out k; rw [hL]; omega
    clear hrd hL
    by_cases hlt : k < ns.length
    · have d1 : decide ((k : Int) < (ns.length : Int)) = true := by simp; omega
      have i1 : (0 : Int) ≤ (k : Int) := by omega
      have i2 : (k : Int) < (ns.length : Int) := by omega
      obtain ⟨z, hz⟩ : ∃ z, ns[k]? = some z := ⟨_, List.getElem?_eq_getElem hlt⟩
      have hzr := HN.out z (List.mem_of_getElem? hz)
      have y0 : wr.cell? ⟨b, k, none⟩ = some (.int .i64 z) := (hbel.cell (p := ⟨b, k, none⟩) hb).trans (HC.out k z hz)
      obtain ⟨m, rfl⟩ := Int.eq_ofNat_of_zero_le hzr.1
      have HTK := Lib.hid (show (ns.take (k + 1)).flatMap (fun z => enc z.toNat) = (ns.take k).flatMap (fun z => enc z.toNat) ++ enc m by rw [List.take_add_one, hz]; simp)
      have NM := Lib.hid (rNumber_ok A L c m wr RD.out (by omega) (by unfold maxNum; omega))
      clear hz hbel
      go_wp2_with fail
      refine NM.out.mono ?_
      rintro e w1 ⟨A1, c1, rfl, r1, _, b1⟩
      obtain ⟨L1, hL1⟩ : ∃ L1, L1 = L ++ enc m := ⟨_, rfl⟩
      rw [← hL1] at r1
      rw [← hL1]
      have HL1 := Lib.hid hL1
      have R1 := Lib.hid r1
      have B1 := Lib.hid (btrans BEL.out b1)
      clear hL1 r1 b1
      go_wp2_with fail
      go_roundw
      case rel => exact ⟨k + 1, A1, c1, L1, by omega, by go_num, by rw [HTK.out, ← List.append_assoc, ← HL.out]; exact HL1.out, rfl, R1.out, B1.out⟩
      case measure => simp [intOf]; omega
    · obtain rfl : k = ns.length := by omega
      have d1 : decide ((ns.length : Int) < (ns.length : Int)) = false := by simp
      have hfin : L = l ++ ns.flatMap fun z => enc z.toNat := by rw [HL.out, List.take_length]
      have HFIN := Lib.hid hfin
      clear hfin hbel
      go_wp2_with fail
      go_ret
      exact ⟨A, c, by rw [← HFIN.out]; rfl, by rw [← HFIN.out]; exact RD.out, BEL.out⟩
theorem load_sn {W : World} {b o : Nat} {s : Sn} (h1 : W.cell? ⟨b, o, none⟩ = some (.int .i64 s.1)) (h2 : W.cell? ⟨b, o + 1, none⟩ = some (.int .i64 s.2.1)) (h3 : W.cell? ⟨b, o + 2, none⟩ = some (.int .i64 s.2.2)) : (loadCells ⟨b, o, none⟩ 3).run Tryz.prog W = .ok #[.int .i64 s.1, .int .i64 s.2.1, .int .i64 s.2.2] W :=
  run_loadCells_list (P := Tryz.prog) W ⟨b, o, none⟩ [.int .i64 s.1, .int .i64 s.2.1, .int .i64 s.2.2] (fun j v hv => by
    rw [Addr.add_mid]
    match j, hv with
    | 0, hv => injection hv with hv; subst hv; exact h1
    | 1, hv => injection hv with hv; subst hv; exact h2
    | 2, hv => injection hv with hv; subst hv; exact h3
    | j + 3, hv => simp at hv)
section
attribute [-go_sem] loadCells
set_option maxRecDepth 100000 in
set_option maxHeartbeats 4000000 in
theorem rEnBytes_no (x : En) (hm : mayEn x = false) (A1 D1 : Option Addr) (c1 e1 : Nat) (w : World) (hr : EnR w x A1 D1) :
    Calls Tryz.prog 12 #[(.agg #[.int .i8 x.kd, .int .i64 x.b.pid, .int .i64 x.b.ep, .int .i64 x.b.seq, .bool x.b.txn, .slice A1 x.b.rs.length c1, .bool x.yes, .int .i64 x.nx, .int .i64 x.off, .int .i64 x.row.1, .int .i64 x.row.2.1, .int .i64 x.row.2.2.1, .string x.row.2.2.2.1, .string x.row.2.2.2.2, .int .i64 x.prod.pid, .int .i64 x.prod.ep, .int .i64 x.prod.nx, .slice D1 x.prod.seen.length e1])] w (EbPost [] 2 w) := by
  have hb1 : Below w.heap.size w (w.alloc (.cells #[.int .i8 x.kd, .int .i64 x.b.pid, .int .i64 x.b.ep, .int .i64 x.b.seq, .bool x.b.txn, .slice A1 x.b.rs.length c1, .bool x.yes, .int .i64 x.nx, .int .i64 x.off, .int .i64 x.row.1, .int .i64 x.row.2.1, .int .i64 x.row.2.2.1, .string x.row.2.2.2.1, .string x.row.2.2.2.2, .int .i64 x.prod.pid, .int .i64 x.prod.ep, .int .i64 x.prod.nx, .slice D1 x.prod.seen.length e1] 32)) := bal (Below.refl _ _) _
  have MY := Lib.hid (rEnMay_any x A1 D1 c1 e1 _ (hr.up hb1))
  rw [hm] at MY
  have LC := cells_blk (Blk.new w 32 #[.int .i8 x.kd, .int .i64 x.b.pid, .int .i64 x.b.ep, .int .i64 x.b.seq, .bool x.b.txn, .slice A1 x.b.rs.length c1, .bool x.yes, .int .i64 x.nx, .int .i64 x.off, .int .i64 x.row.1, .int .i64 x.row.2.1, .int .i64 x.row.2.2.1, .string x.row.2.2.2.1, .string x.row.2.2.2.2, .int .i64 x.prod.pid, .int .i64 x.prod.ep, .int .i64 x.prod.nx, .slice D1 x.prod.seen.length e1]) rfl
  have HB := Lib.hid hb1
  clear hm hr hb1
  go_enter Tryz.func12, Tryz.ntmps12
  go_wp2_with fail
  refine MY.out.mono ?_
  rintro e w1 ⟨rfl, b1⟩
  go_wp2_with fail
  go_ret2
  exact ⟨rfl, btrans HB.out b1⟩
set_option maxRecDepth 100000 in
set_option maxHeartbeats 8000000 in
theorem rEnBytes_0 (x : En) (hk : x.kd = 0) (hm : mayEn x = true) (A1 D1 : Option Addr) (c1 e1 : Nat) (w : World) (hr : EnR w x A1 D1) :
    Calls Tryz.prog 12 #[(.agg #[.int .i8 x.kd, .int .i64 x.b.pid, .int .i64 x.b.ep, .int .i64 x.b.seq, .bool x.b.txn, .slice A1 x.b.rs.length c1, .bool x.yes, .int .i64 x.nx, .int .i64 x.off, .int .i64 x.row.1, .int .i64 x.row.2.1, .int .i64 x.row.2.2.1, .string x.row.2.2.2.1, .string x.row.2.2.2.2, .int .i64 x.prod.pid, .int .i64 x.prod.ep, .int .i64 x.prod.nx, .slice D1 x.prod.seen.length e1])] w (EbPost (encEn x) 0 w) := by
  have hb1 : Below w.heap.size w (w.alloc (.cells #[.int .i8 x.kd, .int .i64 x.b.pid, .int .i64 x.b.ep, .int .i64 x.b.seq, .bool x.b.txn, .slice A1 x.b.rs.length c1, .bool x.yes, .int .i64 x.nx, .int .i64 x.off, .int .i64 x.row.1, .int .i64 x.row.2.1, .int .i64 x.row.2.2.1, .string x.row.2.2.2.1, .string x.row.2.2.2.2, .int .i64 x.prod.pid, .int .i64 x.prod.ep, .int .i64 x.prod.nx, .slice D1 x.prod.seen.length e1] 32)) := bal (Below.refl _ _) _
  have MY := Lib.hid (rEnMay_any x A1 D1 c1 e1 _ (hr.up hb1))
  rw [hm] at MY
  have LC := cells_blk (Blk.new w 32 #[.int .i8 x.kd, .int .i64 x.b.pid, .int .i64 x.b.ep, .int .i64 x.b.seq, .bool x.b.txn, .slice A1 x.b.rs.length c1, .bool x.yes, .int .i64 x.nx, .int .i64 x.off, .int .i64 x.row.1, .int .i64 x.row.2.1, .int .i64 x.row.2.2.1, .string x.row.2.2.2.1, .string x.row.2.2.2.2, .int .i64 x.prod.pid, .int .i64 x.prod.ep, .int .i64 x.prod.nx, .slice D1 x.prod.seen.length e1]) rfl
  have KX := Lib.hid (Blk.new w 32 #[.int .i8 x.kd, .int .i64 x.b.pid, .int .i64 x.b.ep, .int .i64 x.b.seq, .bool x.b.txn, .slice A1 x.b.rs.length c1, .bool x.yes, .int .i64 x.nx, .int .i64 x.off, .int .i64 x.row.1, .int .i64 x.row.2.1, .int .i64 x.row.2.2.1, .string x.row.2.2.2.1, .string x.row.2.2.2.2, .int .i64 x.prod.pid, .int .i64 x.prod.ep, .int .i64 x.prod.nx, .slice D1 x.prod.seen.length e1])
  have HB := Lib.hid hb1
  have hok : okEn x = true := by unfold mayEn at hm; rw [Bool.and_eq_true] at hm; exact hm.1
  unfold okEn at hok
  rw [hk] at hok
  have hmb : mayBt x.b = true := hok
  have HF := Lib.hid hmb
  clear hmb
  have cc0 : (x.kd == 0) = true := by rw [hk]; rfl
  have cc1 : (x.kd == 1) = false := by rw [hk]; rfl
  have cc2 : (x.kd == 2) = false := by rw [hk]; rfl
  have cc3 : (x.kd == 3) = false := by rw [hk]; rfl
  have cc4 : (x.kd == 4) = false := by rw [hk]; rfl
  have cc5 : (x.kd == 5) = false := by rw [hk]; rfl
  have cc6 : (x.kd == 6) = false := by rw [hk]; rfl
  have cwk : IntKind.u8.wrap x.kd = x.kd := by rw [hk]; rfl
  obtain ⟨u, hu, hue⟩ : ∃ u : UInt8, (u.toNat : Int) = x.kd ∧ enc x.kd.toNat = [u] := ⟨0, by rw [hk]; rfl, by rw [hk]; rfl⟩
  have henc : encEn x = [u] ++ encBt x.b := by unfold encEn encE; rw [hue, hk]; rfl
  obtain ⟨LF, hLF⟩ : ∃ LF, LF = encEn x := ⟨_, rfl⟩
  rw [← hLF] at henc ⊢
  have HENC := Lib.hid henc
  have HU := Lib.hid hu
  have HRR := Lib.hid (fun W (h : Below w.heap.size w W) => hr.up h)
  clear hm hr hb1 hok hk hue henc hLF hu
  go_enter Tryz.func12, Tryz.ntmps12
  go_wp2_with fail
  refine MY.out.mono ?_
  rintro e w1 ⟨rfl, b1⟩
  have k1 := KX.out.below b1 KX.out.lt
  have x0 := k1.cell 0
  obtain ⟨W2, hW2⟩ : ∃ W2, W2 = w1.alloc (.cells #[.int .u8 x.kd] 5) := ⟨_, rfl⟩
  have o2 := World.ownsRow_lit (e := 5) (base := w1.heap.size) (size := 1) w1 #[.int .u8 (u.toNat : Int)] 1 (Nat.le_refl _) (by unfold maxLen; omega) rfl
  rw [HU.out, ← hW2] at o2
  have O2 := Lib.hid (show W2.ownsRow w1.heap.size 5 1 (.slice (some ⟨w1.heap.size, 0, none⟩) 1 1) 1 (cellsB [u]) from by
    have e : cellsB [u] = [.int .u8 x.kd] := by rw [← HU.out]; rfl
    rw [e]
    exact o2)
  have R2 := Lib.hid (show Reads W2 W2.heap.size 1 (some ⟨w1.heap.size, 0, none⟩) [u].length (cellsB [u]) from Reads.of_own O2.out)
  have HW2 := Lib.hid hW2
  have hl2 : [u].length ≤ 1 := Nat.le_refl _
  have K2 := Lib.hid (show Blk W2 w.heap.size 32 #[.int .i8 x.kd, .int .i64 x.b.pid, .int .i64 x.b.ep, .int .i64 x.b.seq, .bool x.b.txn, .slice A1 x.b.rs.length c1, .bool x.yes, .int .i64 x.nx, .int .i64 x.off, .int .i64 x.row.1, .int .i64 x.row.2.1, .int .i64 x.row.2.2.1, .string x.row.2.2.2.1, .string x.row.2.2.2.2, .int .i64 x.prod.pid, .int .i64 x.prod.ep, .int .i64 x.prod.nx, .slice D1 x.prod.seen.length e1] by rw [hW2]; exact k1.alloc _)
  have B2 := Lib.hid (show Below w.heap.size w W2 by rw [hW2]; exact bal (btrans HB.out b1) _)
  have HS2 := Lib.hid (show w1.heap.size ≤ W2.heap.size by rw [hW2]; simp)
  clear k1 b1 o2 hW2 LC
  go_upto_region 4 with (fail)
  rw [← HW2.out]
  clear x0
  obtain ⟨LB, hLB⟩ : ∃ LB, LB = encBt x.b := ⟨_, rfl⟩
  have hln := encBt_len x.b HF.out
  rw [← hLB] at hln
  have RB := Lib.hid (rRcBytes_ok x.b A1 c1 W2 (HRR.out _ B2.out).1 HF.out)
  rw [← hLB] at RB
  have HLB := Lib.hid hLB
  obtain ⟨i0, hi, hi0, hi1, hi2⟩ := info_parts infoByte
  have hsz : (bs LB).size = LB.length := size_bs LB
  clear hLB
  have x0 := K2.out.cell 0
  have LO := cells_off K2.out 1 5 rfl rfl
  go_wp2_with fail
  refine RB.out.mono ?_
  rintro e w3 ⟨rfl, b3⟩
  have O3 := Lib.hid (own_below O2.out b3)
  have K3 := Lib.hid (K2.out.below b3 K2.out.lt)
  have B3 := Lib.hid (btrans B2.out b3)
  have hs3 : w1.heap.size ≤ w3.heap.size := Nat.le_trans HS2.out b3.size
  clear b3 x0 LO RB
  go_upto_region 7 with (at_builtin; refine wpList_append_full rfl (.tmp 30) (.tmp 31) 46 9 rfl w1.heap.size 5 i0 Tryz.underlying46 Tryz.underlying9 hi hi0 hi1 hi2 w1.heap.size 1 (cellsB [u]) rfl O3.out (bs LB) rfl (by omega) (by omega) (by omega) ?_; intro cap w4 o4 b4)
  have hll4 : 1 + LB.length = ([u] ++ LB).length := by rw [List.length_append]; rfl
  rw [strCells_lb, lb_bs, ← cellsB_append, hsz, hll4] at o4
  obtain ⟨L4, hL4⟩ : ∃ L, L = [u] ++ LB := ⟨_, rfl⟩
  rw [← hL4] at o4 hll4
  try rw [hsz]
  rw [hll4]
  have HL4 := Lib.hid hL4
  have R4 := Lib.hid (Reads.of_own o4)
  have K4 := Lib.hid (K3.out.below b4 K3.out.lt)
  have B4 := Lib.hid (btrans B3.out b4)
  have hl4 : L4.length ≤ 161 := by omega
  obtain ⟨A4', hA4⟩ : ∃ A, A = some (Addr.mk w3.heap.size 0 none) := ⟨_, rfl⟩
  rw [← hA4] at R4
  rw [← hA4]
  clear hL4 o4 b4 hA4 hll4 hsz hln hi hi0 hi1 hi2 hs3
  have x0 := K4.out.cell 0
  have hfin : L4 = LF := by rw [HL4.out, HENC.out, HLB.out]
  have HFIN := Lib.hid hfin
  clear hfin
  have t1 := run_string_of (P := Tryz.prog) (c := cap) Tryz.underlying46 Tryz.underlying5 Tryz.underlying9 R4.out
  go_wp2_with fail
  go_ret2
  exact ⟨by rw [← HFIN.out]; rfl, B4.out⟩
set_option maxRecDepth 100000 in
set_option maxHeartbeats 8000000 in
theorem rEnBytes_1 (x : En) (hk : x.kd = 1) (hm : mayEn x = true) (A1 D1 : Option Addr) (c1 e1 : Nat) (w : World) (hr : EnR w x A1 D1) :
    Calls Tryz.prog 12 #[(.agg #[.int .i8 x.kd, .int .i64 x.b.pid, .int .i64 x.b.ep, .int .i64 x.b.seq, .bool x.b.txn, .slice A1 x.b.rs.length c1, .bool x.yes, .int .i64 x.nx, .int .i64 x.off, .int .i64 x.row.1, .int .i64 x.row.2.1, .int .i64 x.row.2.2.1, .string x.row.2.2.2.1, .string x.row.2.2.2.2, .int .i64 x.prod.pid, .int .i64 x.prod.ep, .int .i64 x.prod.nx, .slice D1 x.prod.seen.length e1])] w (EbPost (encEn x) 0 w) := by
  have hb1 : Below w.heap.size w (w.alloc (.cells #[.int .i8 x.kd, .int .i64 x.b.pid, .int .i64 x.b.ep, .int .i64 x.b.seq, .bool x.b.txn, .slice A1 x.b.rs.length c1, .bool x.yes, .int .i64 x.nx, .int .i64 x.off, .int .i64 x.row.1, .int .i64 x.row.2.1, .int .i64 x.row.2.2.1, .string x.row.2.2.2.1, .string x.row.2.2.2.2, .int .i64 x.prod.pid, .int .i64 x.prod.ep, .int .i64 x.prod.nx, .slice D1 x.prod.seen.length e1] 32)) := bal (Below.refl _ _) _
  have MY := Lib.hid (rEnMay_any x A1 D1 c1 e1 _ (hr.up hb1))
  rw [hm] at MY
  have LC := cells_blk (Blk.new w 32 #[.int .i8 x.kd, .int .i64 x.b.pid, .int .i64 x.b.ep, .int .i64 x.b.seq, .bool x.b.txn, .slice A1 x.b.rs.length c1, .bool x.yes, .int .i64 x.nx, .int .i64 x.off, .int .i64 x.row.1, .int .i64 x.row.2.1, .int .i64 x.row.2.2.1, .string x.row.2.2.2.1, .string x.row.2.2.2.2, .int .i64 x.prod.pid, .int .i64 x.prod.ep, .int .i64 x.prod.nx, .slice D1 x.prod.seen.length e1]) rfl
  have KX := Lib.hid (Blk.new w 32 #[.int .i8 x.kd, .int .i64 x.b.pid, .int .i64 x.b.ep, .int .i64 x.b.seq, .bool x.b.txn, .slice A1 x.b.rs.length c1, .bool x.yes, .int .i64 x.nx, .int .i64 x.off, .int .i64 x.row.1, .int .i64 x.row.2.1, .int .i64 x.row.2.2.1, .string x.row.2.2.2.1, .string x.row.2.2.2.2, .int .i64 x.prod.pid, .int .i64 x.prod.ep, .int .i64 x.prod.nx, .slice D1 x.prod.seen.length e1])
  have HB := Lib.hid hb1
  have hok : okEn x = true := by unfold mayEn at hm; rw [Bool.and_eq_true] at hm; exact hm.1
  unfold okEn at hok
  rw [hk] at hok
  have hp : prodB x.b.pid x.b.ep = true := hok
  unfold prodB at hp
  simp only [Bool.and_eq_true, decide_eq_true_eq] at hp
  have HF := Lib.hid hp
  clear hp
  have cc0 : (x.kd == 0) = false := by rw [hk]; rfl
  have cc1 : (x.kd == 1) = true := by rw [hk]; rfl
  have cc2 : (x.kd == 2) = false := by rw [hk]; rfl
  have cc3 : (x.kd == 3) = false := by rw [hk]; rfl
  have cc4 : (x.kd == 4) = false := by rw [hk]; rfl
  have cc5 : (x.kd == 5) = false := by rw [hk]; rfl
  have cc6 : (x.kd == 6) = false := by rw [hk]; rfl
  have cwk : IntKind.u8.wrap x.kd = x.kd := by rw [hk]; rfl
  obtain ⟨u, hu, hue⟩ : ∃ u : UInt8, (u.toNat : Int) = x.kd ∧ enc x.kd.toNat = [u] := ⟨1, by rw [hk]; rfl, by rw [hk]; rfl⟩
  have henc : encEn x = [u] ++ (enc x.b.pid.toNat ++ (enc x.b.ep.toNat ++ encY x.yes)) := by unfold encEn encE; rw [hue, hk]; rfl
  obtain ⟨LF, hLF⟩ : ∃ LF, LF = encEn x := ⟨_, rfl⟩
  rw [← hLF] at henc ⊢
  have HENC := Lib.hid henc
  have HU := Lib.hid hu
  have HRR := Lib.hid (fun W (h : Below w.heap.size w W) => hr.up h)
  clear hm hr hb1 hok hk hue henc hLF hu
  go_enter Tryz.func12, Tryz.ntmps12
  go_wp2_with fail
  refine MY.out.mono ?_
  rintro e w1 ⟨rfl, b1⟩
  have k1 := KX.out.below b1 KX.out.lt
  have x0 := k1.cell 0
  obtain ⟨W2, hW2⟩ : ∃ W2, W2 = w1.alloc (.cells #[.int .u8 x.kd] 5) := ⟨_, rfl⟩
  have o2 := World.ownsRow_lit (e := 5) (base := w1.heap.size) (size := 1) w1 #[.int .u8 (u.toNat : Int)] 1 (Nat.le_refl _) (by unfold maxLen; omega) rfl
  rw [HU.out, ← hW2] at o2
  have O2 := Lib.hid (show W2.ownsRow w1.heap.size 5 1 (.slice (some ⟨w1.heap.size, 0, none⟩) 1 1) 1 (cellsB [u]) from by
    have e : cellsB [u] = [.int .u8 x.kd] := by rw [← HU.out]; rfl
    rw [e]
    exact o2)
  have R2 := Lib.hid (show Reads W2 W2.heap.size 1 (some ⟨w1.heap.size, 0, none⟩) [u].length (cellsB [u]) from Reads.of_own O2.out)
  have HW2 := Lib.hid hW2
  have hl2 : [u].length ≤ 1 := Nat.le_refl _
  have K2 := Lib.hid (show Blk W2 w.heap.size 32 #[.int .i8 x.kd, .int .i64 x.b.pid, .int .i64 x.b.ep, .int .i64 x.b.seq, .bool x.b.txn, .slice A1 x.b.rs.length c1, .bool x.yes, .int .i64 x.nx, .int .i64 x.off, .int .i64 x.row.1, .int .i64 x.row.2.1, .int .i64 x.row.2.2.1, .string x.row.2.2.2.1, .string x.row.2.2.2.2, .int .i64 x.prod.pid, .int .i64 x.prod.ep, .int .i64 x.prod.nx, .slice D1 x.prod.seen.length e1] by rw [hW2]; exact k1.alloc _)
  have B2 := Lib.hid (show Below w.heap.size w W2 by rw [hW2]; exact bal (btrans HB.out b1) _)
  have HS2 := Lib.hid (show w1.heap.size ≤ W2.heap.size by rw [hW2]; simp)
  clear k1 b1 o2 hW2 LC
  go_upto_region 4 with (fail)
  rw [← HW2.out]
  clear x0
  have x0 := K2.out.cell 0
  have x1 := K2.out.cell 1
  have x2 := K2.out.cell 2
  have hf := HF.out
  have HZ := Lib.hid (show ∀ z ∈ ([x.b.pid, x.b.ep] : List Int), 0 ≤ z ∧ z ≤ 1048577 by simp only [List.mem_cons, List.not_mem_nil, or_false]; rintro z hz; omega)
  have BA3 := Lib.hid (bal (Below.refl W2.heap.size W2) (.cells #[.int .i64 (x.b.pid), .int .i64 (x.b.ep)] 3))
  clear hf
  go_wp2_with fail
  refine (rnumbers_any (some ⟨w1.heap.size, 0, none⟩) [u] 1 W2.heap.size [x.b.pid, x.b.ep] 2 (W2.alloc (.cells #[.int .i64 (x.b.pid), .int .i64 (x.b.ep)] 3)) ((R2.out.alloc (Nat.le_refl _) _).more (by simp)) (by simp) (ints_new W2 [x.b.pid, x.b.ep] 3 _ rfl) HZ.out (by simp only [List.length_cons, List.length_nil]; omega)).mono ?_
  rintro e w3 ⟨A3', c3', rfl, r3, b3⟩
  replace b3 := btrans BA3.out b3
  obtain ⟨L3, hL3⟩ : ∃ L, L = [u] ++ [x.b.pid, x.b.ep].flatMap fun z => enc z.toNat := ⟨_, rfl⟩
  rw [← hL3] at r3
  rw [← hL3]
  have HL3 := Lib.hid hL3
  have R3 := Lib.hid r3
  have B3 := Lib.hid (btrans B2.out b3)
  have K3 := Lib.hid (K2.out.below b3 K2.out.lt)
  have hl3 : L3.length ≤ 7 := by
    have h9 := nums_len _ HZ.out
    rw [hL3, List.length_append]
    simp only [List.length_cons, List.length_nil] at h9 hl2 ⊢
    omega
  clear hL3 r3 b3 x0 x1 x2
  clear HZ BA3
  have x0 := K3.out.cell 0
  have x6 := K3.out.cell 6
  go_wp2_with fail
  refine (rFlag_any A3' L3 c3' x.yes w3 R3.out (by omega)).mono ?_
  rintro e w4 ⟨A4', c4', rfl, r4, _, b4⟩
  obtain ⟨L4, hL4⟩ : ∃ L, L = L3 ++ encY x.yes := ⟨_, rfl⟩
  rw [← hL4] at r4
  rw [← hL4]
  have HL4 := Lib.hid hL4
  have R4 := Lib.hid (Reads.of_own r4)
  have B4 := Lib.hid (btrans B3.out b4)
  have K4 := Lib.hid (K3.out.below b4 K3.out.lt)
  have hl4 : L4.length ≤ 8 := by
    rw [hL4, List.length_append]
    have : (encY x.yes).length = 1 := rfl
    omega
  clear hL4 r4 b4 x0 x6
  have x0 := K4.out.cell 0
  have hfin : L4 = LF := by rw [HL4.out, HL3.out, HENC.out]; simp
  have HFIN := Lib.hid hfin
  clear hfin
  have t1 := run_string_of (P := Tryz.prog) (c := c4') Tryz.underlying46 Tryz.underlying5 Tryz.underlying9 R4.out
  go_wp2_with fail
  go_ret2
  exact ⟨by rw [← HFIN.out]; rfl, B4.out⟩
set_option maxRecDepth 100000 in
set_option maxHeartbeats 8000000 in
theorem rEnBytes_2 (x : En) (hk : x.kd = 2) (hm : mayEn x = true) (A1 D1 : Option Addr) (c1 e1 : Nat) (w : World) (hr : EnR w x A1 D1) :
    Calls Tryz.prog 12 #[(.agg #[.int .i8 x.kd, .int .i64 x.b.pid, .int .i64 x.b.ep, .int .i64 x.b.seq, .bool x.b.txn, .slice A1 x.b.rs.length c1, .bool x.yes, .int .i64 x.nx, .int .i64 x.off, .int .i64 x.row.1, .int .i64 x.row.2.1, .int .i64 x.row.2.2.1, .string x.row.2.2.2.1, .string x.row.2.2.2.2, .int .i64 x.prod.pid, .int .i64 x.prod.ep, .int .i64 x.prod.nx, .slice D1 x.prod.seen.length e1])] w (EbPost (encEn x) 0 w) := by
  have hb1 : Below w.heap.size w (w.alloc (.cells #[.int .i8 x.kd, .int .i64 x.b.pid, .int .i64 x.b.ep, .int .i64 x.b.seq, .bool x.b.txn, .slice A1 x.b.rs.length c1, .bool x.yes, .int .i64 x.nx, .int .i64 x.off, .int .i64 x.row.1, .int .i64 x.row.2.1, .int .i64 x.row.2.2.1, .string x.row.2.2.2.1, .string x.row.2.2.2.2, .int .i64 x.prod.pid, .int .i64 x.prod.ep, .int .i64 x.prod.nx, .slice D1 x.prod.seen.length e1] 32)) := bal (Below.refl _ _) _
  have MY := Lib.hid (rEnMay_any x A1 D1 c1 e1 _ (hr.up hb1))
  rw [hm] at MY
  have LC := cells_blk (Blk.new w 32 #[.int .i8 x.kd, .int .i64 x.b.pid, .int .i64 x.b.ep, .int .i64 x.b.seq, .bool x.b.txn, .slice A1 x.b.rs.length c1, .bool x.yes, .int .i64 x.nx, .int .i64 x.off, .int .i64 x.row.1, .int .i64 x.row.2.1, .int .i64 x.row.2.2.1, .string x.row.2.2.2.1, .string x.row.2.2.2.2, .int .i64 x.prod.pid, .int .i64 x.prod.ep, .int .i64 x.prod.nx, .slice D1 x.prod.seen.length e1]) rfl
  have KX := Lib.hid (Blk.new w 32 #[.int .i8 x.kd, .int .i64 x.b.pid, .int .i64 x.b.ep, .int .i64 x.b.seq, .bool x.b.txn, .slice A1 x.b.rs.length c1, .bool x.yes, .int .i64 x.nx, .int .i64 x.off, .int .i64 x.row.1, .int .i64 x.row.2.1, .int .i64 x.row.2.2.1, .string x.row.2.2.2.1, .string x.row.2.2.2.2, .int .i64 x.prod.pid, .int .i64 x.prod.ep, .int .i64 x.prod.nx, .slice D1 x.prod.seen.length e1])
  have HB := Lib.hid hb1
  have hok : okEn x = true := by unfold mayEn at hm; rw [Bool.and_eq_true] at hm; exact hm.1
  unfold okEn at hok
  rw [hk] at hok
  have hp : seqB x.off = true := hok
  unfold seqB at hp
  simp only [decide_eq_true_eq] at hp
  have HF := Lib.hid hp
  clear hp
  have cc0 : (x.kd == 0) = false := by rw [hk]; rfl
  have cc1 : (x.kd == 1) = false := by rw [hk]; rfl
  have cc2 : (x.kd == 2) = true := by rw [hk]; rfl
  have cc3 : (x.kd == 3) = false := by rw [hk]; rfl
  have cc4 : (x.kd == 4) = false := by rw [hk]; rfl
  have cc5 : (x.kd == 5) = false := by rw [hk]; rfl
  have cc6 : (x.kd == 6) = false := by rw [hk]; rfl
  have cwk : IntKind.u8.wrap x.kd = x.kd := by rw [hk]; rfl
  obtain ⟨u, hu, hue⟩ : ∃ u : UInt8, (u.toNat : Int) = x.kd ∧ enc x.kd.toNat = [u] := ⟨2, by rw [hk]; rfl, by rw [hk]; rfl⟩
  have henc : encEn x = [u] ++ enc x.off.toNat := by unfold encEn encE; rw [hue, hk]; rfl
  obtain ⟨LF, hLF⟩ : ∃ LF, LF = encEn x := ⟨_, rfl⟩
  rw [← hLF] at henc ⊢
  have HENC := Lib.hid henc
  have HU := Lib.hid hu
  have HRR := Lib.hid (fun W (h : Below w.heap.size w W) => hr.up h)
  clear hm hr hb1 hok hk hue henc hLF hu
  go_enter Tryz.func12, Tryz.ntmps12
  go_wp2_with fail
  refine MY.out.mono ?_
  rintro e w1 ⟨rfl, b1⟩
  have k1 := KX.out.below b1 KX.out.lt
  have x0 := k1.cell 0
  obtain ⟨W2, hW2⟩ : ∃ W2, W2 = w1.alloc (.cells #[.int .u8 x.kd] 5) := ⟨_, rfl⟩
  have o2 := World.ownsRow_lit (e := 5) (base := w1.heap.size) (size := 1) w1 #[.int .u8 (u.toNat : Int)] 1 (Nat.le_refl _) (by unfold maxLen; omega) rfl
  rw [HU.out, ← hW2] at o2
  have O2 := Lib.hid (show W2.ownsRow w1.heap.size 5 1 (.slice (some ⟨w1.heap.size, 0, none⟩) 1 1) 1 (cellsB [u]) from by
    have e : cellsB [u] = [.int .u8 x.kd] := by rw [← HU.out]; rfl
    rw [e]
    exact o2)
  have R2 := Lib.hid (show Reads W2 W2.heap.size 1 (some ⟨w1.heap.size, 0, none⟩) [u].length (cellsB [u]) from Reads.of_own O2.out)
  have HW2 := Lib.hid hW2
  have hl2 : [u].length ≤ 1 := Nat.le_refl _
  have K2 := Lib.hid (show Blk W2 w.heap.size 32 #[.int .i8 x.kd, .int .i64 x.b.pid, .int .i64 x.b.ep, .int .i64 x.b.seq, .bool x.b.txn, .slice A1 x.b.rs.length c1, .bool x.yes, .int .i64 x.nx, .int .i64 x.off, .int .i64 x.row.1, .int .i64 x.row.2.1, .int .i64 x.row.2.2.1, .string x.row.2.2.2.1, .string x.row.2.2.2.2, .int .i64 x.prod.pid, .int .i64 x.prod.ep, .int .i64 x.prod.nx, .slice D1 x.prod.seen.length e1] by rw [hW2]; exact k1.alloc _)
  have B2 := Lib.hid (show Below w.heap.size w W2 by rw [hW2]; exact bal (btrans HB.out b1) _)
  have HS2 := Lib.hid (show w1.heap.size ≤ W2.heap.size by rw [hW2]; simp)
  clear k1 b1 o2 hW2 LC
  go_upto_region 4 with (fail)
  rw [← HW2.out]
  clear x0
  have x0 := K2.out.cell 0
  have x8 := K2.out.cell 8
  have hf := HF.out
  have HZ := Lib.hid (show ∀ z ∈ ([x.off] : List Int), 0 ≤ z ∧ z ≤ 1048577 by simp only [List.mem_cons, List.not_mem_nil, or_false]; rintro z hz; omega)
  have BA3 := Lib.hid (bal (Below.refl W2.heap.size W2) (.cells #[.int .i64 (x.off)] 3))
  clear hf
  go_wp2_with fail
  refine (rnumbers_any (some ⟨w1.heap.size, 0, none⟩) [u] 1 W2.heap.size [x.off] 1 (W2.alloc (.cells #[.int .i64 (x.off)] 3)) ((R2.out.alloc (Nat.le_refl _) _).more (by simp)) (by simp) (ints_new W2 [x.off] 3 _ rfl) HZ.out (by simp only [List.length_cons, List.length_nil]; omega)).mono ?_
  rintro e w3 ⟨A3', c3', rfl, r3, b3⟩
  replace b3 := btrans BA3.out b3
  obtain ⟨L3, hL3⟩ : ∃ L, L = [u] ++ [x.off].flatMap fun z => enc z.toNat := ⟨_, rfl⟩
  rw [← hL3] at r3
  rw [← hL3]
  have HL3 := Lib.hid hL3
  have R3 := Lib.hid r3
  have B3 := Lib.hid (btrans B2.out b3)
  have K3 := Lib.hid (K2.out.below b3 K2.out.lt)
  have hl3 : L3.length ≤ 4 := by
    have h9 := nums_len _ HZ.out
    rw [hL3, List.length_append]
    simp only [List.length_cons, List.length_nil] at h9 hl2 ⊢
    omega
  clear hL3 r3 b3 x0 x8
  clear HZ BA3
  have x0 := K3.out.cell 0
  have hfin : L3 = LF := by rw [HL3.out, HENC.out]; simp
  have HFIN := Lib.hid hfin
  clear hfin
  have t1 := run_string_of (P := Tryz.prog) (c := c3') Tryz.underlying46 Tryz.underlying5 Tryz.underlying9 R3.out
  go_wp2_with fail
  go_ret2
  exact ⟨by rw [← HFIN.out]; rfl, B3.out⟩
set_option maxRecDepth 100000 in
set_option maxHeartbeats 8000000 in
theorem rEnBytes_3f (x : En) (hk : x.kd = 3) (hy : x.yes = false) (hm : mayEn x = true) (A1 D1 : Option Addr) (c1 e1 : Nat) (w : World) (hr : EnR w x A1 D1) :
    Calls Tryz.prog 12 #[(.agg #[.int .i8 x.kd, .int .i64 x.b.pid, .int .i64 x.b.ep, .int .i64 x.b.seq, .bool x.b.txn, .slice A1 x.b.rs.length c1, .bool x.yes, .int .i64 x.nx, .int .i64 x.off, .int .i64 x.row.1, .int .i64 x.row.2.1, .int .i64 x.row.2.2.1, .string x.row.2.2.2.1, .string x.row.2.2.2.2, .int .i64 x.prod.pid, .int .i64 x.prod.ep, .int .i64 x.prod.nx, .slice D1 x.prod.seen.length e1])] w (EbPost (encEn x) 0 w) := by
  have hb1 : Below w.heap.size w (w.alloc (.cells #[.int .i8 x.kd, .int .i64 x.b.pid, .int .i64 x.b.ep, .int .i64 x.b.seq, .bool x.b.txn, .slice A1 x.b.rs.length c1, .bool x.yes, .int .i64 x.nx, .int .i64 x.off, .int .i64 x.row.1, .int .i64 x.row.2.1, .int .i64 x.row.2.2.1, .string x.row.2.2.2.1, .string x.row.2.2.2.2, .int .i64 x.prod.pid, .int .i64 x.prod.ep, .int .i64 x.prod.nx, .slice D1 x.prod.seen.length e1] 32)) := bal (Below.refl _ _) _
  have MY := Lib.hid (rEnMay_any x A1 D1 c1 e1 _ (hr.up hb1))
  rw [hm] at MY
  have LC := cells_blk (Blk.new w 32 #[.int .i8 x.kd, .int .i64 x.b.pid, .int .i64 x.b.ep, .int .i64 x.b.seq, .bool x.b.txn, .slice A1 x.b.rs.length c1, .bool x.yes, .int .i64 x.nx, .int .i64 x.off, .int .i64 x.row.1, .int .i64 x.row.2.1, .int .i64 x.row.2.2.1, .string x.row.2.2.2.1, .string x.row.2.2.2.2, .int .i64 x.prod.pid, .int .i64 x.prod.ep, .int .i64 x.prod.nx, .slice D1 x.prod.seen.length e1]) rfl
  have KX := Lib.hid (Blk.new w 32 #[.int .i8 x.kd, .int .i64 x.b.pid, .int .i64 x.b.ep, .int .i64 x.b.seq, .bool x.b.txn, .slice A1 x.b.rs.length c1, .bool x.yes, .int .i64 x.nx, .int .i64 x.off, .int .i64 x.row.1, .int .i64 x.row.2.1, .int .i64 x.row.2.2.1, .string x.row.2.2.2.1, .string x.row.2.2.2.2, .int .i64 x.prod.pid, .int .i64 x.prod.ep, .int .i64 x.prod.nx, .slice D1 x.prod.seen.length e1])
  have HB := Lib.hid hb1
  have hok : okEn x = true := by unfold mayEn at hm; rw [Bool.and_eq_true] at hm; exact hm.1
  unfold okEn at hok
  rw [hk] at hok
  have hp : ((x.b.txn && (!x.yes || seqB x.nx)) && mayBt x.b) = true := hok
  rw [Bool.and_eq_true, Bool.and_eq_true] at hp
  have hq : x.yes = true → 0 ≤ x.nx ∧ x.nx ≤ 1048576 := fun hy => by
    have := hp.1.2
    rw [hy] at this
    unfold seqB at this
    simpa using this
  have HF := Lib.hid hp
  have HQ := Lib.hid hq
  clear hp hq
  have cc0 : (x.kd == 0) = false := by rw [hk]; rfl
  have cc1 : (x.kd == 1) = false := by rw [hk]; rfl
  have cc2 : (x.kd == 2) = false := by rw [hk]; rfl
  have cc3 : (x.kd == 3) = true := by rw [hk]; rfl
  have cc4 : (x.kd == 4) = false := by rw [hk]; rfl
  have cc5 : (x.kd == 5) = false := by rw [hk]; rfl
  have cc6 : (x.kd == 6) = false := by rw [hk]; rfl
  have cwk : IntKind.u8.wrap x.kd = x.kd := by rw [hk]; rfl
  obtain ⟨u, hu, hue⟩ : ∃ u : UInt8, (u.toNat : Int) = x.kd ∧ enc x.kd.toNat = [u] := ⟨3, by rw [hk]; rfl, by rw [hk]; rfl⟩
  have henc : encEn x = [u] ++ (encBt x.b ++ (encY x.yes ++ [])) := by unfold encEn encE; rw [hue, hk]; first | rfl | (show [u] ++ (encBt x.b ++ (encY x.yes ++ (cIf x.yes).e x.nx)) = _; rw [hy]; rfl)
  obtain ⟨LF, hLF⟩ : ∃ LF, LF = encEn x := ⟨_, rfl⟩
  rw [← hLF] at henc ⊢
  have HENC := Lib.hid henc
  have HU := Lib.hid hu
  have HRR := Lib.hid (fun W (h : Below w.heap.size w W) => hr.up h)
  have HY := Lib.hid hy
  clear hy
  clear hm hr hb1 hok hk hue henc hLF hu
  go_enter Tryz.func12, Tryz.ntmps12
  go_wp2_with fail
  refine MY.out.mono ?_
  rintro e w1 ⟨rfl, b1⟩
  have k1 := KX.out.below b1 KX.out.lt
  have x0 := k1.cell 0
  obtain ⟨W2, hW2⟩ : ∃ W2, W2 = w1.alloc (.cells #[.int .u8 x.kd] 5) := ⟨_, rfl⟩
  have o2 := World.ownsRow_lit (e := 5) (base := w1.heap.size) (size := 1) w1 #[.int .u8 (u.toNat : Int)] 1 (Nat.le_refl _) (by unfold maxLen; omega) rfl
  rw [HU.out, ← hW2] at o2
  have O2 := Lib.hid (show W2.ownsRow w1.heap.size 5 1 (.slice (some ⟨w1.heap.size, 0, none⟩) 1 1) 1 (cellsB [u]) from by
    have e : cellsB [u] = [.int .u8 x.kd] := by rw [← HU.out]; rfl
    rw [e]
    exact o2)
  have R2 := Lib.hid (show Reads W2 W2.heap.size 1 (some ⟨w1.heap.size, 0, none⟩) [u].length (cellsB [u]) from Reads.of_own O2.out)
  have HW2 := Lib.hid hW2
  have hl2 : [u].length ≤ 1 := Nat.le_refl _
  have K2 := Lib.hid (show Blk W2 w.heap.size 32 #[.int .i8 x.kd, .int .i64 x.b.pid, .int .i64 x.b.ep, .int .i64 x.b.seq, .bool x.b.txn, .slice A1 x.b.rs.length c1, .bool x.yes, .int .i64 x.nx, .int .i64 x.off, .int .i64 x.row.1, .int .i64 x.row.2.1, .int .i64 x.row.2.2.1, .string x.row.2.2.2.1, .string x.row.2.2.2.2, .int .i64 x.prod.pid, .int .i64 x.prod.ep, .int .i64 x.prod.nx, .slice D1 x.prod.seen.length e1] by rw [hW2]; exact k1.alloc _)
  have B2 := Lib.hid (show Below w.heap.size w W2 by rw [hW2]; exact bal (btrans HB.out b1) _)
  have HS2 := Lib.hid (show w1.heap.size ≤ W2.heap.size by rw [hW2]; simp)
  clear k1 b1 o2 hW2 LC
  go_upto_region 4 with (fail)
  rw [← HW2.out]
  clear x0
  obtain ⟨LB, hLB⟩ : ∃ LB, LB = encBt x.b := ⟨_, rfl⟩
  have hln := encBt_len x.b HF.out.2
  rw [← hLB] at hln
  have RB := Lib.hid (rRcBytes_ok x.b A1 c1 W2 (HRR.out _ B2.out).1 HF.out.2)
  rw [← hLB] at RB
  have HLB := Lib.hid hLB
  obtain ⟨i0, hi, hi0, hi1, hi2⟩ := info_parts infoByte
  have hsz : (bs LB).size = LB.length := size_bs LB
  clear hLB
  have x0 := K2.out.cell 0
  have LO := cells_off K2.out 1 5 rfl rfl
  go_wp2_with fail
  refine RB.out.mono ?_
  rintro e w3 ⟨rfl, b3⟩
  have O3 := Lib.hid (own_below O2.out b3)
  have K3 := Lib.hid (K2.out.below b3 K2.out.lt)
  have B3 := Lib.hid (btrans B2.out b3)
  have hs3 : w1.heap.size ≤ w3.heap.size := Nat.le_trans HS2.out b3.size
  clear b3 x0 LO RB
  go_upto_region 7 with (at_builtin; refine wpList_append_full rfl (.tmp 30) (.tmp 31) 46 9 rfl w1.heap.size 5 i0 Tryz.underlying46 Tryz.underlying9 hi hi0 hi1 hi2 w1.heap.size 1 (cellsB [u]) rfl O3.out (bs LB) rfl (by omega) (by omega) (by omega) ?_; intro cap w4 o4 b4)
  have hll4 : 1 + LB.length = ([u] ++ LB).length := by rw [List.length_append]; rfl
  rw [strCells_lb, lb_bs, ← cellsB_append, hsz, hll4] at o4
  obtain ⟨L4, hL4⟩ : ∃ L, L = [u] ++ LB := ⟨_, rfl⟩
  rw [← hL4] at o4 hll4
  try rw [hsz]
  rw [hll4]
  have HL4 := Lib.hid hL4
  have R4 := Lib.hid (Reads.of_own o4)
  have K4 := Lib.hid (K3.out.below b4 K3.out.lt)
  have B4 := Lib.hid (btrans B3.out b4)
  have hl4 : L4.length ≤ 161 := by omega
  obtain ⟨A4', hA4⟩ : ∃ A, A = some (Addr.mk w3.heap.size 0 none) := ⟨_, rfl⟩
  rw [← hA4] at R4
  rw [← hA4]
  clear hL4 o4 b4 hA4 hll4 hsz hln hi hi0 hi1 hi2 hs3
  have x0 := K4.out.cell 0
  have x6 := K4.out.cell 6
  go_wp2_with fail
  refine (rFlag_any A4' L4 cap x.yes w4 R4.out (by omega)).mono ?_
  rintro e w5 ⟨A5', c5', rfl, r5, _, b5⟩
  obtain ⟨L5, hL5⟩ : ∃ L, L = L4 ++ encY x.yes := ⟨_, rfl⟩
  rw [← hL5] at r5
  rw [← hL5]
  have HL5 := Lib.hid hL5
  have R5 := Lib.hid (Reads.of_own r5)
  have B5 := Lib.hid (btrans B4.out b5)
  have K5 := Lib.hid (K4.out.below b5 K4.out.lt)
  have hl5 : L5.length ≤ 162 := by
    rw [hL5, List.length_append]
    have : (encY x.yes).length = 1 := rfl
    omega
  clear hL5 r5 b5 x0 x6
  have x6 := K5.out.cell 6
  rw [HY.out] at x6
  have x0 := K5.out.cell 0
  have hfin : L5 = LF := by rw [HL5.out, HL4.out, HENC.out, HLB.out]; simp
  have HFIN := Lib.hid hfin
  clear hfin
  have t1 := run_string_of (P := Tryz.prog) (c := c5') Tryz.underlying46 Tryz.underlying5 Tryz.underlying9 R5.out
  go_wp2_with fail
  go_ret2
  exact ⟨by rw [← HFIN.out]; rfl, B5.out⟩
set_option maxRecDepth 100000 in
set_option maxHeartbeats 8000000 in
theorem rEnBytes_3t (x : En) (hk : x.kd = 3) (hy : x.yes = true) (hm : mayEn x = true) (A1 D1 : Option Addr) (c1 e1 : Nat) (w : World) (hr : EnR w x A1 D1) :
    Calls Tryz.prog 12 #[(.agg #[.int .i8 x.kd, .int .i64 x.b.pid, .int .i64 x.b.ep, .int .i64 x.b.seq, .bool x.b.txn, .slice A1 x.b.rs.length c1, .bool x.yes, .int .i64 x.nx, .int .i64 x.off, .int .i64 x.row.1, .int .i64 x.row.2.1, .int .i64 x.row.2.2.1, .string x.row.2.2.2.1, .string x.row.2.2.2.2, .int .i64 x.prod.pid, .int .i64 x.prod.ep, .int .i64 x.prod.nx, .slice D1 x.prod.seen.length e1])] w (EbPost (encEn x) 0 w) := by
  have hb1 : Below w.heap.size w (w.alloc (.cells #[.int .i8 x.kd, .int .i64 x.b.pid, .int .i64 x.b.ep, .int .i64 x.b.seq, .bool x.b.txn, .slice A1 x.b.rs.length c1, .bool x.yes, .int .i64 x.nx, .int .i64 x.off, .int .i64 x.row.1, .int .i64 x.row.2.1, .int .i64 x.row.2.2.1, .string x.row.2.2.2.1, .string x.row.2.2.2.2, .int .i64 x.prod.pid, .int .i64 x.prod.ep, .int .i64 x.prod.nx, .slice D1 x.prod.seen.length e1] 32)) := bal (Below.refl _ _) _
  have MY := Lib.hid (rEnMay_any x A1 D1 c1 e1 _ (hr.up hb1))
  rw [hm] at MY
  have LC := cells_blk (Blk.new w 32 #[.int .i8 x.kd, .int .i64 x.b.pid, .int .i64 x.b.ep, .int .i64 x.b.seq, .bool x.b.txn, .slice A1 x.b.rs.length c1, .bool x.yes, .int .i64 x.nx, .int .i64 x.off, .int .i64 x.row.1, .int .i64 x.row.2.1, .int .i64 x.row.2.2.1, .string x.row.2.2.2.1, .string x.row.2.2.2.2, .int .i64 x.prod.pid, .int .i64 x.prod.ep, .int .i64 x.prod.nx, .slice D1 x.prod.seen.length e1]) rfl
  have KX := Lib.hid (Blk.new w 32 #[.int .i8 x.kd, .int .i64 x.b.pid, .int .i64 x.b.ep, .int .i64 x.b.seq, .bool x.b.txn, .slice A1 x.b.rs.length c1, .bool x.yes, .int .i64 x.nx, .int .i64 x.off, .int .i64 x.row.1, .int .i64 x.row.2.1, .int .i64 x.row.2.2.1, .string x.row.2.2.2.1, .string x.row.2.2.2.2, .int .i64 x.prod.pid, .int .i64 x.prod.ep, .int .i64 x.prod.nx, .slice D1 x.prod.seen.length e1])
  have HB := Lib.hid hb1
  have hok : okEn x = true := by unfold mayEn at hm; rw [Bool.and_eq_true] at hm; exact hm.1
  unfold okEn at hok
  rw [hk] at hok
  have hp : ((x.b.txn && (!x.yes || seqB x.nx)) && mayBt x.b) = true := hok
  rw [Bool.and_eq_true, Bool.and_eq_true] at hp
  have hq : x.yes = true → 0 ≤ x.nx ∧ x.nx ≤ 1048576 := fun hy => by
    have := hp.1.2
    rw [hy] at this
    unfold seqB at this
    simpa using this
  have HF := Lib.hid hp
  have HQ := Lib.hid hq
  clear hp hq
  have cc0 : (x.kd == 0) = false := by rw [hk]; rfl
  have cc1 : (x.kd == 1) = false := by rw [hk]; rfl
  have cc2 : (x.kd == 2) = false := by rw [hk]; rfl
  have cc3 : (x.kd == 3) = true := by rw [hk]; rfl
  have cc4 : (x.kd == 4) = false := by rw [hk]; rfl
  have cc5 : (x.kd == 5) = false := by rw [hk]; rfl
  have cc6 : (x.kd == 6) = false := by rw [hk]; rfl
  have cwk : IntKind.u8.wrap x.kd = x.kd := by rw [hk]; rfl
  obtain ⟨u, hu, hue⟩ : ∃ u : UInt8, (u.toNat : Int) = x.kd ∧ enc x.kd.toNat = [u] := ⟨3, by rw [hk]; rfl, by rw [hk]; rfl⟩
  have henc : encEn x = [u] ++ (encBt x.b ++ (encY x.yes ++ enc x.nx.toNat)) := by unfold encEn encE; rw [hue, hk]; first | rfl | (show [u] ++ (encBt x.b ++ (encY x.yes ++ (cIf x.yes).e x.nx)) = _; rw [hy]; rfl)
  obtain ⟨LF, hLF⟩ : ∃ LF, LF = encEn x := ⟨_, rfl⟩
  rw [← hLF] at henc ⊢
  have HENC := Lib.hid henc
  have HU := Lib.hid hu
  have HRR := Lib.hid (fun W (h : Below w.heap.size w W) => hr.up h)
  have HY := Lib.hid hy
  clear hy
  clear hm hr hb1 hok hk hue henc hLF hu
  go_enter Tryz.func12, Tryz.ntmps12
  go_wp2_with fail
  refine MY.out.mono ?_
  rintro e w1 ⟨rfl, b1⟩
  have k1 := KX.out.below b1 KX.out.lt
  have x0 := k1.cell 0
  obtain ⟨W2, hW2⟩ : ∃ W2, W2 = w1.alloc (.cells #[.int .u8 x.kd] 5) := ⟨_, rfl⟩
  have o2 := World.ownsRow_lit (e := 5) (base := w1.heap.size) (size := 1) w1 #[.int .u8 (u.toNat : Int)] 1 (Nat.le_refl _) (by unfold maxLen; omega) rfl
  rw [HU.out, ← hW2] at o2
  have O2 := Lib.hid (show W2.ownsRow w1.heap.size 5 1 (.slice (some ⟨w1.heap.size, 0, none⟩) 1 1) 1 (cellsB [u]) from by
    have e : cellsB [u] = [.int .u8 x.kd] := by rw [← HU.out]; rfl
    rw [e]
    exact o2)
  have R2 := Lib.hid (show Reads W2 W2.heap.size 1 (some ⟨w1.heap.size, 0, none⟩) [u].length (cellsB [u]) from Reads.of_own O2.out)
  have HW2 := Lib.hid hW2
  have hl2 : [u].length ≤ 1 := Nat.le_refl _
  have K2 := Lib.hid (show Blk W2 w.heap.size 32 #[.int .i8 x.kd, .int .i64 x.b.pid, .int .i64 x.b.ep, .int .i64 x.b.seq, .bool x.b.txn, .slice A1 x.b.rs.length c1, .bool x.yes, .int .i64 x.nx, .int .i64 x.off, .int .i64 x.row.1, .int .i64 x.row.2.1, .int .i64 x.row.2.2.1, .string x.row.2.2.2.1, .string x.row.2.2.2.2, .int .i64 x.prod.pid, .int .i64 x.prod.ep, .int .i64 x.prod.nx, .slice D1 x.prod.seen.length e1] by rw [hW2]; exact k1.alloc _)
  have B2 := Lib.hid (show Below w.heap.size w W2 by rw [hW2]; exact bal (btrans HB.out b1) _)
  have HS2 := Lib.hid (show w1.heap.size ≤ W2.heap.size by rw [hW2]; simp)
  clear k1 b1 o2 hW2 LC
  go_upto_region 4 with (fail)
  rw [← HW2.out]
  clear x0
  obtain ⟨LB, hLB⟩ : ∃ LB, LB = encBt x.b := ⟨_, rfl⟩
  have hln := encBt_len x.b HF.out.2
  rw [← hLB] at hln
  have RB := Lib.hid (rRcBytes_ok x.b A1 c1 W2 (HRR.out _ B2.out).1 HF.out.2)
  rw [← hLB] at RB
  have HLB := Lib.hid hLB
  obtain ⟨i0, hi, hi0, hi1, hi2⟩ := info_parts infoByte
  have hsz : (bs LB).size = LB.length := size_bs LB
  clear hLB
  have x0 := K2.out.cell 0
  have LO := cells_off K2.out 1 5 rfl rfl
  go_wp2_with fail
  refine RB.out.mono ?_
  rintro e w3 ⟨rfl, b3⟩
  have O3 := Lib.hid (own_below O2.out b3)
  have K3 := Lib.hid (K2.out.below b3 K2.out.lt)
  have B3 := Lib.hid (btrans B2.out b3)
  have hs3 : w1.heap.size ≤ w3.heap.size := Nat.le_trans HS2.out b3.size
  clear b3 x0 LO RB
  go_upto_region 7 with (at_builtin; refine wpList_append_full rfl (.tmp 30) (.tmp 31) 46 9 rfl w1.heap.size 5 i0 Tryz.underlying46 Tryz.underlying9 hi hi0 hi1 hi2 w1.heap.size 1 (cellsB [u]) rfl O3.out (bs LB) rfl (by omega) (by omega) (by omega) ?_; intro cap w4 o4 b4)
  have hll4 : 1 + LB.length = ([u] ++ LB).length := by rw [List.length_append]; rfl
  rw [strCells_lb, lb_bs, ← cellsB_append, hsz, hll4] at o4
  obtain ⟨L4, hL4⟩ : ∃ L, L = [u] ++ LB := ⟨_, rfl⟩
  rw [← hL4] at o4 hll4
  try rw [hsz]
  rw [hll4]
  have HL4 := Lib.hid hL4
  have R4 := Lib.hid (Reads.of_own o4)
  have K4 := Lib.hid (K3.out.below b4 K3.out.lt)
  have B4 := Lib.hid (btrans B3.out b4)
  have hl4 : L4.length ≤ 161 := by omega
  obtain ⟨A4', hA4⟩ : ∃ A, A = some (Addr.mk w3.heap.size 0 none) := ⟨_, rfl⟩
  rw [← hA4] at R4
  rw [← hA4]
  clear hL4 o4 b4 hA4 hll4 hsz hln hi hi0 hi1 hi2 hs3
  have x0 := K4.out.cell 0
  have x6 := K4.out.cell 6
  go_wp2_with fail
  refine (rFlag_any A4' L4 cap x.yes w4 R4.out (by omega)).mono ?_
  rintro e w5 ⟨A5', c5', rfl, r5, _, b5⟩
  obtain ⟨L5, hL5⟩ : ∃ L, L = L4 ++ encY x.yes := ⟨_, rfl⟩
  rw [← hL5] at r5
  rw [← hL5]
  have HL5 := Lib.hid hL5
  have R5 := Lib.hid (Reads.of_own r5)
  have B5 := Lib.hid (btrans B4.out b5)
  have K5 := Lib.hid (K4.out.below b5 K4.out.lt)
  have hl5 : L5.length ≤ 162 := by
    rw [hL5, List.length_append]
    have : (encY x.yes).length = 1 := rfl
    omega
  clear hL5 r5 b5 x0 x6
  have x6 := K5.out.cell 6
  rw [HY.out] at x6
  have x0 := K5.out.cell 0
  have x7 := K5.out.cell 7
  have hf := HQ.out HY.out
  have HZ := Lib.hid (show ∀ z ∈ ([x.nx] : List Int), 0 ≤ z ∧ z ≤ 1048577 by simp only [List.mem_cons, List.not_mem_nil, or_false]; rintro z hz; omega)
  have BA6 := Lib.hid (bal (Below.refl w5.heap.size w5) (.cells #[.int .i64 (x.nx)] 3))
  clear hf
  go_wp2_with fail
  refine (rnumbers_any A5' L5 c5' w5.heap.size [x.nx] 1 (w5.alloc (.cells #[.int .i64 (x.nx)] 3)) ((R5.out.alloc (Nat.le_refl _) _).more (by simp)) (by simp) (ints_new w5 [x.nx] 3 _ rfl) HZ.out (by simp only [List.length_cons, List.length_nil]; omega)).mono ?_
  rintro e w6 ⟨A6', c6', rfl, r6, b6⟩
  replace b6 := btrans BA6.out b6
  obtain ⟨L6, hL6⟩ : ∃ L, L = L5 ++ [x.nx].flatMap fun z => enc z.toNat := ⟨_, rfl⟩
  rw [← hL6] at r6
  rw [← hL6]
  have HL6 := Lib.hid hL6
  have R6 := Lib.hid r6
  have B6 := Lib.hid (btrans B5.out b6)
  have K6 := Lib.hid (K5.out.below b6 K5.out.lt)
  have hl6 : L6.length ≤ 165 := by
    have h9 := nums_len _ HZ.out
    rw [hL6, List.length_append]
    simp only [List.length_cons, List.length_nil] at h9 hl5 ⊢
    omega
  clear hL6 r6 b6 x0 x7
  clear HZ BA6
  clear x6
  have x0 := K6.out.cell 0
  have hfin : L6 = LF := by rw [HL6.out, HL5.out, HL4.out, HENC.out, HLB.out]; simp
  have HFIN := Lib.hid hfin
  clear hfin
  have t1 := run_string_of (P := Tryz.prog) (c := c6') Tryz.underlying46 Tryz.underlying5 Tryz.underlying9 R6.out
  go_wp2_with fail
  go_ret2
  exact ⟨by rw [← HFIN.out]; rfl, B6.out⟩
set_option maxRecDepth 100000 in
set_option maxHeartbeats 8000000 in
theorem rEnBytes_4 (x : En) (hk : x.kd = 4) (hm : mayEn x = true) (A1 D1 : Option Addr) (c1 e1 : Nat) (w : World) (hr : EnR w x A1 D1) :
    Calls Tryz.prog 12 #[(.agg #[.int .i8 x.kd, .int .i64 x.b.pid, .int .i64 x.b.ep, .int .i64 x.b.seq, .bool x.b.txn, .slice A1 x.b.rs.length c1, .bool x.yes, .int .i64 x.nx, .int .i64 x.off, .int .i64 x.row.1, .int .i64 x.row.2.1, .int .i64 x.row.2.2.1, .string x.row.2.2.2.1, .string x.row.2.2.2.2, .int .i64 x.prod.pid, .int .i64 x.prod.ep, .int .i64 x.prod.nx, .slice D1 x.prod.seen.length e1])] w (EbPost (encEn x) 0 w) := by
  have hb1 : Below w.heap.size w (w.alloc (.cells #[.int .i8 x.kd, .int .i64 x.b.pid, .int .i64 x.b.ep, .int .i64 x.b.seq, .bool x.b.txn, .slice A1 x.b.rs.length c1, .bool x.yes, .int .i64 x.nx, .int .i64 x.off, .int .i64 x.row.1, .int .i64 x.row.2.1, .int .i64 x.row.2.2.1, .string x.row.2.2.2.1, .string x.row.2.2.2.2, .int .i64 x.prod.pid, .int .i64 x.prod.ep, .int .i64 x.prod.nx, .slice D1 x.prod.seen.length e1] 32)) := bal (Below.refl _ _) _
  have MY := Lib.hid (rEnMay_any x A1 D1 c1 e1 _ (hr.up hb1))
  rw [hm] at MY
  have LC := cells_blk (Blk.new w 32 #[.int .i8 x.kd, .int .i64 x.b.pid, .int .i64 x.b.ep, .int .i64 x.b.seq, .bool x.b.txn, .slice A1 x.b.rs.length c1, .bool x.yes, .int .i64 x.nx, .int .i64 x.off, .int .i64 x.row.1, .int .i64 x.row.2.1, .int .i64 x.row.2.2.1, .string x.row.2.2.2.1, .string x.row.2.2.2.2, .int .i64 x.prod.pid, .int .i64 x.prod.ep, .int .i64 x.prod.nx, .slice D1 x.prod.seen.length e1]) rfl
  have KX := Lib.hid (Blk.new w 32 #[.int .i8 x.kd, .int .i64 x.b.pid, .int .i64 x.b.ep, .int .i64 x.b.seq, .bool x.b.txn, .slice A1 x.b.rs.length c1, .bool x.yes, .int .i64 x.nx, .int .i64 x.off, .int .i64 x.row.1, .int .i64 x.row.2.1, .int .i64 x.row.2.2.1, .string x.row.2.2.2.1, .string x.row.2.2.2.2, .int .i64 x.prod.pid, .int .i64 x.prod.ep, .int .i64 x.prod.nx, .slice D1 x.prod.seen.length e1])
  have HB := Lib.hid hb1
  have hok : okEn x = true := by unfold mayEn at hm; rw [Bool.and_eq_true] at hm; exact hm.1
  unfold okEn at hok
  rw [hk] at hok
  have hp : ((!x.yes && seqB x.nx) && prodB x.b.pid x.b.ep) = true := hok
  unfold prodB seqB at hp
  simp only [Bool.and_eq_true, decide_eq_true_eq] at hp
  have HF := Lib.hid hp
  clear hp
  have cc0 : (x.kd == 0) = false := by rw [hk]; rfl
  have cc1 : (x.kd == 1) = false := by rw [hk]; rfl
  have cc2 : (x.kd == 2) = false := by rw [hk]; rfl
  have cc3 : (x.kd == 3) = false := by rw [hk]; rfl
  have cc4 : (x.kd == 4) = true := by rw [hk]; rfl
  have cc5 : (x.kd == 5) = false := by rw [hk]; rfl
  have cc6 : (x.kd == 6) = false := by rw [hk]; rfl
  have cwk : IntKind.u8.wrap x.kd = x.kd := by rw [hk]; rfl
  obtain ⟨u, hu, hue⟩ : ∃ u : UInt8, (u.toNat : Int) = x.kd ∧ enc x.kd.toNat = [u] := ⟨4, by rw [hk]; rfl, by rw [hk]; rfl⟩
  have henc : encEn x = [u] ++ (enc x.b.pid.toNat ++ (enc x.b.ep.toNat ++ enc x.nx.toNat)) := by unfold encEn encE; rw [hue, hk]; rfl
  obtain ⟨LF, hLF⟩ : ∃ LF, LF = encEn x := ⟨_, rfl⟩
  rw [← hLF] at henc ⊢
  have HENC := Lib.hid henc
  have HU := Lib.hid hu
  have HRR := Lib.hid (fun W (h : Below w.heap.size w W) => hr.up h)
  clear hm hr hb1 hok hk hue henc hLF hu
  go_enter Tryz.func12, Tryz.ntmps12
  go_wp2_with fail
  refine MY.out.mono ?_
  rintro e w1 ⟨rfl, b1⟩
  have k1 := KX.out.below b1 KX.out.lt
  have x0 := k1.cell 0
  obtain ⟨W2, hW2⟩ : ∃ W2, W2 = w1.alloc (.cells #[.int .u8 x.kd] 5) := ⟨_, rfl⟩
  have o2 := World.ownsRow_lit (e := 5) (base := w1.heap.size) (size := 1) w1 #[.int .u8 (u.toNat : Int)] 1 (Nat.le_refl _) (by unfold maxLen; omega) rfl
  rw [HU.out, ← hW2] at o2
  have O2 := Lib.hid (show W2.ownsRow w1.heap.size 5 1 (.slice (some ⟨w1.heap.size, 0, none⟩) 1 1) 1 (cellsB [u]) from by
    have e : cellsB [u] = [.int .u8 x.kd] := by rw [← HU.out]; rfl
    rw [e]
    exact o2)
  have R2 := Lib.hid (show Reads W2 W2.heap.size 1 (some ⟨w1.heap.size, 0, none⟩) [u].length (cellsB [u]) from Reads.of_own O2.out)
  have HW2 := Lib.hid hW2
  have hl2 : [u].length ≤ 1 := Nat.le_refl _
  have K2 := Lib.hid (show Blk W2 w.heap.size 32 #[.int .i8 x.kd, .int .i64 x.b.pid, .int .i64 x.b.ep, .int .i64 x.b.seq, .bool x.b.txn, .slice A1 x.b.rs.length c1, .bool x.yes, .int .i64 x.nx, .int .i64 x.off, .int .i64 x.row.1, .int .i64 x.row.2.1, .int .i64 x.row.2.2.1, .string x.row.2.2.2.1, .string x.row.2.2.2.2, .int .i64 x.prod.pid, .int .i64 x.prod.ep, .int .i64 x.prod.nx, .slice D1 x.prod.seen.length e1] by rw [hW2]; exact k1.alloc _)
  have B2 := Lib.hid (show Below w.heap.size w W2 by rw [hW2]; exact bal (btrans HB.out b1) _)
  have HS2 := Lib.hid (show w1.heap.size ≤ W2.heap.size by rw [hW2]; simp)
  clear k1 b1 o2 hW2 LC
  go_upto_region 4 with (fail)
  rw [← HW2.out]
  clear x0
  have x0 := K2.out.cell 0
  have x1 := K2.out.cell 1
  have x2 := K2.out.cell 2
  have hf := HF.out.2
  have HZ := Lib.hid (show ∀ z ∈ ([x.b.pid, x.b.ep] : List Int), 0 ≤ z ∧ z ≤ 1048577 by simp only [List.mem_cons, List.not_mem_nil, or_false]; rintro z hz; omega)
  have BA3 := Lib.hid (bal (Below.refl W2.heap.size W2) (.cells #[.int .i64 (x.b.pid), .int .i64 (x.b.ep)] 3))
  clear hf
  go_wp2_with fail
  refine (rnumbers_any (some ⟨w1.heap.size, 0, none⟩) [u] 1 W2.heap.size [x.b.pid, x.b.ep] 2 (W2.alloc (.cells #[.int .i64 (x.b.pid), .int .i64 (x.b.ep)] 3)) ((R2.out.alloc (Nat.le_refl _) _).more (by simp)) (by simp) (ints_new W2 [x.b.pid, x.b.ep] 3 _ rfl) HZ.out (by simp only [List.length_cons, List.length_nil]; omega)).mono ?_
  rintro e w3 ⟨A3', c3', rfl, r3, b3⟩
  replace b3 := btrans BA3.out b3
  obtain ⟨L3, hL3⟩ : ∃ L, L = [u] ++ [x.b.pid, x.b.ep].flatMap fun z => enc z.toNat := ⟨_, rfl⟩
  rw [← hL3] at r3
  rw [← hL3]
  have HL3 := Lib.hid hL3
  have R3 := Lib.hid r3
  have B3 := Lib.hid (btrans B2.out b3)
  have K3 := Lib.hid (K2.out.below b3 K2.out.lt)
  have hl3 : L3.length ≤ 7 := by
    have h9 := nums_len _ HZ.out
    rw [hL3, List.length_append]
    simp only [List.length_cons, List.length_nil] at h9 hl2 ⊢
    omega
  clear hL3 r3 b3 x0 x1 x2
  clear HZ BA3
  have x0 := K3.out.cell 0
  have x7 := K3.out.cell 7
  have hf := HF.out.1.2
  have HZ := Lib.hid (show ∀ z ∈ ([x.nx] : List Int), 0 ≤ z ∧ z ≤ 1048577 by simp only [List.mem_cons, List.not_mem_nil, or_false]; rintro z hz; omega)
  have BA4 := Lib.hid (bal (Below.refl w3.heap.size w3) (.cells #[.int .i64 (x.nx)] 3))
  clear hf
  go_wp2_with fail
  refine (rnumbers_any A3' L3 c3' w3.heap.size [x.nx] 1 (w3.alloc (.cells #[.int .i64 (x.nx)] 3)) ((R3.out.alloc (Nat.le_refl _) _).more (by simp)) (by simp) (ints_new w3 [x.nx] 3 _ rfl) HZ.out (by simp only [List.length_cons, List.length_nil]; omega)).mono ?_
  rintro e w4 ⟨A4', c4', rfl, r4, b4⟩
  replace b4 := btrans BA4.out b4
  obtain ⟨L4, hL4⟩ : ∃ L, L = L3 ++ [x.nx].flatMap fun z => enc z.toNat := ⟨_, rfl⟩
  rw [← hL4] at r4
  rw [← hL4]
  have HL4 := Lib.hid hL4
  have R4 := Lib.hid r4
  have B4 := Lib.hid (btrans B3.out b4)
  have K4 := Lib.hid (K3.out.below b4 K3.out.lt)
  have hl4 : L4.length ≤ 10 := by
    have h9 := nums_len _ HZ.out
    rw [hL4, List.length_append]
    simp only [List.length_cons, List.length_nil] at h9 hl3 ⊢
    omega
  clear hL4 r4 b4 x0 x7
  clear HZ BA4
  have x0 := K4.out.cell 0
  have hfin : L4 = LF := by rw [HL4.out, HL3.out, HENC.out]; simp
  have HFIN := Lib.hid hfin
  clear hfin
  have t1 := run_string_of (P := Tryz.prog) (c := c4') Tryz.underlying46 Tryz.underlying5 Tryz.underlying9 R4.out
  go_wp2_with fail
  go_ret2
  exact ⟨by rw [← HFIN.out]; rfl, B4.out⟩
set_option maxRecDepth 100000 in
set_option maxHeartbeats 8000000 in
theorem rEnBytes_5 (x : En) (hk : x.kd = 5) (hm : mayEn x = true) (A1 D1 : Option Addr) (c1 e1 : Nat) (w : World) (hr : EnR w x A1 D1) :
    Calls Tryz.prog 12 #[(.agg #[.int .i8 x.kd, .int .i64 x.b.pid, .int .i64 x.b.ep, .int .i64 x.b.seq, .bool x.b.txn, .slice A1 x.b.rs.length c1, .bool x.yes, .int .i64 x.nx, .int .i64 x.off, .int .i64 x.row.1, .int .i64 x.row.2.1, .int .i64 x.row.2.2.1, .string x.row.2.2.2.1, .string x.row.2.2.2.2, .int .i64 x.prod.pid, .int .i64 x.prod.ep, .int .i64 x.prod.nx, .slice D1 x.prod.seen.length e1])] w (EbPost (encEn x) 0 w) := by
  have hb1 : Below w.heap.size w (w.alloc (.cells #[.int .i8 x.kd, .int .i64 x.b.pid, .int .i64 x.b.ep, .int .i64 x.b.seq, .bool x.b.txn, .slice A1 x.b.rs.length c1, .bool x.yes, .int .i64 x.nx, .int .i64 x.off, .int .i64 x.row.1, .int .i64 x.row.2.1, .int .i64 x.row.2.2.1, .string x.row.2.2.2.1, .string x.row.2.2.2.2, .int .i64 x.prod.pid, .int .i64 x.prod.ep, .int .i64 x.prod.nx, .slice D1 x.prod.seen.length e1] 32)) := bal (Below.refl _ _) _
  have MY := Lib.hid (rEnMay_any x A1 D1 c1 e1 _ (hr.up hb1))
  rw [hm] at MY
  have LC := cells_blk (Blk.new w 32 #[.int .i8 x.kd, .int .i64 x.b.pid, .int .i64 x.b.ep, .int .i64 x.b.seq, .bool x.b.txn, .slice A1 x.b.rs.length c1, .bool x.yes, .int .i64 x.nx, .int .i64 x.off, .int .i64 x.row.1, .int .i64 x.row.2.1, .int .i64 x.row.2.2.1, .string x.row.2.2.2.1, .string x.row.2.2.2.2, .int .i64 x.prod.pid, .int .i64 x.prod.ep, .int .i64 x.prod.nx, .slice D1 x.prod.seen.length e1]) rfl
  have KX := Lib.hid (Blk.new w 32 #[.int .i8 x.kd, .int .i64 x.b.pid, .int .i64 x.b.ep, .int .i64 x.b.seq, .bool x.b.txn, .slice A1 x.b.rs.length c1, .bool x.yes, .int .i64 x.nx, .int .i64 x.off, .int .i64 x.row.1, .int .i64 x.row.2.1, .int .i64 x.row.2.2.1, .string x.row.2.2.2.1, .string x.row.2.2.2.2, .int .i64 x.prod.pid, .int .i64 x.prod.ep, .int .i64 x.prod.nx, .slice D1 x.prod.seen.length e1])
  have HB := Lib.hid hb1
  have hok : okEn x = true := by unfold mayEn at hm; rw [Bool.and_eq_true] at hm; exact hm.1
  unfold okEn at hok
  rw [hk] at hok
  have hp : rowB x.row = true := hok
  unfold rowB at hp
  simp only [Bool.and_eq_true, decide_eq_true_eq] at hp
  have HF := Lib.hid hp
  clear hp
  have cc0 : (x.kd == 0) = false := by rw [hk]; rfl
  have cc1 : (x.kd == 1) = false := by rw [hk]; rfl
  have cc2 : (x.kd == 2) = false := by rw [hk]; rfl
  have cc3 : (x.kd == 3) = false := by rw [hk]; rfl
  have cc4 : (x.kd == 4) = false := by rw [hk]; rfl
  have cc5 : (x.kd == 5) = true := by rw [hk]; rfl
  have cc6 : (x.kd == 6) = false := by rw [hk]; rfl
  have cwk : IntKind.u8.wrap x.kd = x.kd := by rw [hk]; rfl
  obtain ⟨u, hu, hue⟩ : ∃ u : UInt8, (u.toNat : Int) = x.kd ∧ enc x.kd.toNat = [u] := ⟨5, by rw [hk]; rfl, by rw [hk]; rfl⟩
  have henc : encEn x = [u] ++ (enc x.row.2.1.toNat ++ (enc x.row.2.2.1.toNat ++ ((cTxt 1024).e (lb x.row.2.2.2.1) ++ (cTxt 1024).e (lb x.row.2.2.2.2)))) := by unfold encEn encE; rw [hue, hk]; rfl
  obtain ⟨LF, hLF⟩ : ∃ LF, LF = encEn x := ⟨_, rfl⟩
  rw [← hLF] at henc ⊢
  have HENC := Lib.hid henc
  have HU := Lib.hid hu
  have HRR := Lib.hid (fun W (h : Below w.heap.size w W) => hr.up h)
  clear hm hr hb1 hok hk hue henc hLF hu
  go_enter Tryz.func12, Tryz.ntmps12
  go_wp2_with fail
  refine MY.out.mono ?_
  rintro e w1 ⟨rfl, b1⟩
  have k1 := KX.out.below b1 KX.out.lt
  have x0 := k1.cell 0
  obtain ⟨W2, hW2⟩ : ∃ W2, W2 = w1.alloc (.cells #[.int .u8 x.kd] 5) := ⟨_, rfl⟩
  have o2 := World.ownsRow_lit (e := 5) (base := w1.heap.size) (size := 1) w1 #[.int .u8 (u.toNat : Int)] 1 (Nat.le_refl _) (by unfold maxLen; omega) rfl
  rw [HU.out, ← hW2] at o2
  have O2 := Lib.hid (show W2.ownsRow w1.heap.size 5 1 (.slice (some ⟨w1.heap.size, 0, none⟩) 1 1) 1 (cellsB [u]) from by
    have e : cellsB [u] = [.int .u8 x.kd] := by rw [← HU.out]; rfl
    rw [e]
    exact o2)
  have R2 := Lib.hid (show Reads W2 W2.heap.size 1 (some ⟨w1.heap.size, 0, none⟩) [u].length (cellsB [u]) from Reads.of_own O2.out)
  have HW2 := Lib.hid hW2
  have hl2 : [u].length ≤ 1 := Nat.le_refl _
  have K2 := Lib.hid (show Blk W2 w.heap.size 32 #[.int .i8 x.kd, .int .i64 x.b.pid, .int .i64 x.b.ep, .int .i64 x.b.seq, .bool x.b.txn, .slice A1 x.b.rs.length c1, .bool x.yes, .int .i64 x.nx, .int .i64 x.off, .int .i64 x.row.1, .int .i64 x.row.2.1, .int .i64 x.row.2.2.1, .string x.row.2.2.2.1, .string x.row.2.2.2.2, .int .i64 x.prod.pid, .int .i64 x.prod.ep, .int .i64 x.prod.nx, .slice D1 x.prod.seen.length e1] by rw [hW2]; exact k1.alloc _)
  have B2 := Lib.hid (show Below w.heap.size w W2 by rw [hW2]; exact bal (btrans HB.out b1) _)
  have HS2 := Lib.hid (show w1.heap.size ≤ W2.heap.size by rw [hW2]; simp)
  clear k1 b1 o2 hW2 LC
  go_upto_region 4 with (fail)
  rw [← HW2.out]
  clear x0
  have x0 := K2.out.cell 0
  have x10 := K2.out.cell 10
  have x11 := K2.out.cell 11
  have hf := HF.out
  have HZ := Lib.hid (show ∀ z ∈ ([x.row.2.1, x.row.2.2.1] : List Int), 0 ≤ z ∧ z ≤ 1048577 by simp only [List.mem_cons, List.not_mem_nil, or_false]; rintro z hz; omega)
  have BA3 := Lib.hid (bal (Below.refl W2.heap.size W2) (.cells #[.int .i64 (x.row.2.1), .int .i64 (x.row.2.2.1)] 3))
  clear hf
  go_wp2_with fail
  refine (rnumbers_any (some ⟨w1.heap.size, 0, none⟩) [u] 1 W2.heap.size [x.row.2.1, x.row.2.2.1] 2 (W2.alloc (.cells #[.int .i64 (x.row.2.1), .int .i64 (x.row.2.2.1)] 3)) ((R2.out.alloc (Nat.le_refl _) _).more (by simp)) (by simp) (ints_new W2 [x.row.2.1, x.row.2.2.1] 3 _ rfl) HZ.out (by simp only [List.length_cons, List.length_nil]; omega)).mono ?_
  rintro e w3 ⟨A3', c3', rfl, r3, b3⟩
  replace b3 := btrans BA3.out b3
  obtain ⟨L3, hL3⟩ : ∃ L, L = [u] ++ [x.row.2.1, x.row.2.2.1].flatMap fun z => enc z.toNat := ⟨_, rfl⟩
  rw [← hL3] at r3
  rw [← hL3]
  have HL3 := Lib.hid hL3
  have R3 := Lib.hid r3
  have B3 := Lib.hid (btrans B2.out b3)
  have K3 := Lib.hid (K2.out.below b3 K2.out.lt)
  have hl3 : L3.length ≤ 7 := by
    have h9 := nums_len _ HZ.out
    rw [hL3, List.length_append]
    simp only [List.length_cons, List.length_nil] at h9 hl2 ⊢
    omega
  clear hL3 r3 b3 x0 x10 x11
  clear HZ BA3
  have x0 := K3.out.cell 0
  have x12 := K3.out.cell 12
  have ht := HF.out.2.2.2.1
  go_wp2_with fail
  refine (rText_ok A3' L3 c3' x.row.2.2.2.1 w3 R3.out (by omega) (by omega)).mono ?_
  rintro e w4 ⟨A4', c4', rfl, r4, _, b4⟩
  obtain ⟨L4, hL4⟩ : ∃ L, L = L3 ++ (cTxt 1024).e (lb x.row.2.2.2.1) := ⟨_, rfl⟩
  rw [← hL4] at r4
  rw [← hL4]
  have HL4 := Lib.hid hL4
  have R4 := Lib.hid (Reads.of_own r4)
  have B4 := Lib.hid (btrans B3.out b4)
  have K4 := Lib.hid (K3.out.below b4 K3.out.lt)
  have hl4 : L4.length ≤ 24 := by
    rw [hL4, List.length_append]
    have := (encT_len x.row.2.2.2.1 ht).1
    omega
  clear hL4 r4 b4 x0 x12
  clear ht
  have x0 := K4.out.cell 0
  have x13 := K4.out.cell 13
  have ht := HF.out.2.2.2.2
  go_wp2_with fail
  refine (rText_ok A4' L4 c4' x.row.2.2.2.2 w4 R4.out (by omega) (by omega)).mono ?_
  rintro e w5 ⟨A5', c5', rfl, r5, _, b5⟩
  obtain ⟨L5, hL5⟩ : ∃ L, L = L4 ++ (cTxt 1024).e (lb x.row.2.2.2.2) := ⟨_, rfl⟩
  rw [← hL5] at r5
  rw [← hL5]
  have HL5 := Lib.hid hL5
  have R5 := Lib.hid (Reads.of_own r5)
  have B5 := Lib.hid (btrans B4.out b5)
  have K5 := Lib.hid (K4.out.below b5 K4.out.lt)
  have hl5 : L5.length ≤ 41 := by
    rw [hL5, List.length_append]
    have := (encT_len x.row.2.2.2.2 ht).1
    omega
  clear hL5 r5 b5 x0 x13
  clear ht
  have x0 := K5.out.cell 0
  have hfin : L5 = LF := by rw [HL5.out, HL4.out, HL3.out, HENC.out]; simp
  have HFIN := Lib.hid hfin
  clear hfin
  have t1 := run_string_of (P := Tryz.prog) (c := c5') Tryz.underlying46 Tryz.underlying5 Tryz.underlying9 R5.out
  go_wp2_with fail
  go_ret2
  exact ⟨by rw [← HFIN.out]; rfl, B5.out⟩
set_option maxRecDepth 100000 in
set_option maxHeartbeats 8000000 in
theorem rEnBytes_6 (x : En) (hk : x.kd = 6) (hm : mayEn x = true) (A1 D1 : Option Addr) (c1 e1 : Nat) (w : World) (hr : EnR w x A1 D1) :
    Calls Tryz.prog 12 #[(.agg #[.int .i8 x.kd, .int .i64 x.b.pid, .int .i64 x.b.ep, .int .i64 x.b.seq, .bool x.b.txn, .slice A1 x.b.rs.length c1, .bool x.yes, .int .i64 x.nx, .int .i64 x.off, .int .i64 x.row.1, .int .i64 x.row.2.1, .int .i64 x.row.2.2.1, .string x.row.2.2.2.1, .string x.row.2.2.2.2, .int .i64 x.prod.pid, .int .i64 x.prod.ep, .int .i64 x.prod.nx, .slice D1 x.prod.seen.length e1])] w (EbPost (encEn x) 0 w) := by
  have hb1 : Below w.heap.size w (w.alloc (.cells #[.int .i8 x.kd, .int .i64 x.b.pid, .int .i64 x.b.ep, .int .i64 x.b.seq, .bool x.b.txn, .slice A1 x.b.rs.length c1, .bool x.yes, .int .i64 x.nx, .int .i64 x.off, .int .i64 x.row.1, .int .i64 x.row.2.1, .int .i64 x.row.2.2.1, .string x.row.2.2.2.1, .string x.row.2.2.2.2, .int .i64 x.prod.pid, .int .i64 x.prod.ep, .int .i64 x.prod.nx, .slice D1 x.prod.seen.length e1] 32)) := bal (Below.refl _ _) _
  have MY := Lib.hid (rEnMay_any x A1 D1 c1 e1 _ (hr.up hb1))
  rw [hm] at MY
  have LC := cells_blk (Blk.new w 32 #[.int .i8 x.kd, .int .i64 x.b.pid, .int .i64 x.b.ep, .int .i64 x.b.seq, .bool x.b.txn, .slice A1 x.b.rs.length c1, .bool x.yes, .int .i64 x.nx, .int .i64 x.off, .int .i64 x.row.1, .int .i64 x.row.2.1, .int .i64 x.row.2.2.1, .string x.row.2.2.2.1, .string x.row.2.2.2.2, .int .i64 x.prod.pid, .int .i64 x.prod.ep, .int .i64 x.prod.nx, .slice D1 x.prod.seen.length e1]) rfl
  have KX := Lib.hid (Blk.new w 32 #[.int .i8 x.kd, .int .i64 x.b.pid, .int .i64 x.b.ep, .int .i64 x.b.seq, .bool x.b.txn, .slice A1 x.b.rs.length c1, .bool x.yes, .int .i64 x.nx, .int .i64 x.off, .int .i64 x.row.1, .int .i64 x.row.2.1, .int .i64 x.row.2.2.1, .string x.row.2.2.2.1, .string x.row.2.2.2.2, .int .i64 x.prod.pid, .int .i64 x.prod.ep, .int .i64 x.prod.nx, .slice D1 x.prod.seen.length e1])
  have HB := Lib.hid hb1
  have hok : okEn x = true := by unfold mayEn at hm; rw [Bool.and_eq_true] at hm; exact hm.1
  unfold okEn at hok
  rw [hk] at hok
  have hp : knownB x.prod = true := hok
  have HF := Lib.hid (known_facts hp)
  clear hp
  have cc0 : (x.kd == 0) = false := by rw [hk]; rfl
  have cc1 : (x.kd == 1) = false := by rw [hk]; rfl
  have cc2 : (x.kd == 2) = false := by rw [hk]; rfl
  have cc3 : (x.kd == 3) = false := by rw [hk]; rfl
  have cc4 : (x.kd == 4) = false := by rw [hk]; rfl
  have cc5 : (x.kd == 5) = false := by rw [hk]; rfl
  have cc6 : (x.kd == 6) = true := by rw [hk]; rfl
  have cwk : IntKind.u8.wrap x.kd = x.kd := by rw [hk]; rfl
  obtain ⟨u, hu, hue⟩ : ∃ u : UInt8, (u.toNat : Int) = x.kd ∧ enc x.kd.toNat = [u] := ⟨6, by rw [hk]; rfl, by rw [hk]; rfl⟩
  have henc : encEn x = [u] ++ (enc x.prod.pid.toNat ++ (enc x.prod.ep.toNat ++ (enc x.prod.nx.toNat ++ (enc x.prod.seen.length ++ x.prod.seen.flatMap encSn)))) := by unfold encEn encE; rw [hue, hk]; rfl
  obtain ⟨LF, hLF⟩ : ∃ LF, LF = encEn x := ⟨_, rfl⟩
  rw [← hLF] at henc ⊢
  have HENC := Lib.hid henc
  have HU := Lib.hid hu
  have HRR := Lib.hid (fun W (h : Below w.heap.size w W) => hr.up h)
  have HRD := Lib.hid (fun W (h : Below w.heap.size w W) => hr.2.1.below h)
  clear hm hr hb1 hok hk hue henc hLF hu
  go_enter Tryz.func12, Tryz.ntmps12
  go_wp2_with fail
  refine MY.out.mono ?_
  rintro e w1 ⟨rfl, b1⟩
  have k1 := KX.out.below b1 KX.out.lt
  have x0 := k1.cell 0
  obtain ⟨W2, hW2⟩ : ∃ W2, W2 = w1.alloc (.cells #[.int .u8 x.kd] 5) := ⟨_, rfl⟩
  have o2 := World.ownsRow_lit (e := 5) (base := w1.heap.size) (size := 1) w1 #[.int .u8 (u.toNat : Int)] 1 (Nat.le_refl _) (by unfold maxLen; omega) rfl
  rw [HU.out, ← hW2] at o2
  have O2 := Lib.hid (show W2.ownsRow w1.heap.size 5 1 (.slice (some ⟨w1.heap.size, 0, none⟩) 1 1) 1 (cellsB [u]) from by
    have e : cellsB [u] = [.int .u8 x.kd] := by rw [← HU.out]; rfl
    rw [e]
    exact o2)
  have R2 := Lib.hid (show Reads W2 W2.heap.size 1 (some ⟨w1.heap.size, 0, none⟩) [u].length (cellsB [u]) from Reads.of_own O2.out)
  have HW2 := Lib.hid hW2
  have hl2 : [u].length ≤ 1 := Nat.le_refl _
  have K2 := Lib.hid (show Blk W2 w.heap.size 32 #[.int .i8 x.kd, .int .i64 x.b.pid, .int .i64 x.b.ep, .int .i64 x.b.seq, .bool x.b.txn, .slice A1 x.b.rs.length c1, .bool x.yes, .int .i64 x.nx, .int .i64 x.off, .int .i64 x.row.1, .int .i64 x.row.2.1, .int .i64 x.row.2.2.1, .string x.row.2.2.2.1, .string x.row.2.2.2.2, .int .i64 x.prod.pid, .int .i64 x.prod.ep, .int .i64 x.prod.nx, .slice D1 x.prod.seen.length e1] by rw [hW2]; exact k1.alloc _)
  have B2 := Lib.hid (show Below w.heap.size w W2 by rw [hW2]; exact bal (btrans HB.out b1) _)
  have HS2 := Lib.hid (show w1.heap.size ≤ W2.heap.size by rw [hW2]; simp)
  clear k1 b1 o2 hW2 LC
  go_upto_region 4 with (fail)
  rw [← HW2.out]
  clear x0
  have x0 := K2.out.cell 0
  have x14 := K2.out.cell 14
  have x15 := K2.out.cell 15
  have x16 := K2.out.cell 16
  have x17 := K2.out.cell 17
  have hf := And.intro HF.out.1 (And.intro HF.out.2.1 (And.intro HF.out.2.2.1 HF.out.2.2.2.1))
  have HZ := Lib.hid (show ∀ z ∈ ([x.prod.pid, x.prod.ep, x.prod.nx, (x.prod.seen.length : Int)] : List Int), 0 ≤ z ∧ z ≤ 1048577 by simp only [List.mem_cons, List.not_mem_nil, or_false]; rintro z hz; omega)
  have BA3 := Lib.hid (bal (Below.refl W2.heap.size W2) (.cells #[.int .i64 (x.prod.pid), .int .i64 (x.prod.ep), .int .i64 (x.prod.nx), .int .i64 ((x.prod.seen.length : Int))] 3))
  clear hf
  go_wp2_with fail
  refine (rnumbers_any (some ⟨w1.heap.size, 0, none⟩) [u] 1 W2.heap.size [x.prod.pid, x.prod.ep, x.prod.nx, (x.prod.seen.length : Int)] 4 (W2.alloc (.cells #[.int .i64 (x.prod.pid), .int .i64 (x.prod.ep), .int .i64 (x.prod.nx), .int .i64 ((x.prod.seen.length : Int))] 3)) ((R2.out.alloc (Nat.le_refl _) _).more (by simp)) (by simp) (ints_new W2 [x.prod.pid, x.prod.ep, x.prod.nx, (x.prod.seen.length : Int)] 3 _ rfl) HZ.out (by simp only [List.length_cons, List.length_nil]; omega)).mono ?_
  rintro e w3 ⟨A3', c3', rfl, r3, b3⟩
  replace b3 := btrans BA3.out b3
  obtain ⟨L3, hL3⟩ : ∃ L, L = [u] ++ [x.prod.pid, x.prod.ep, x.prod.nx, (x.prod.seen.length : Int)].flatMap fun z => enc z.toNat := ⟨_, rfl⟩
  rw [← hL3] at r3
  rw [← hL3]
  have HL3 := Lib.hid hL3
  have R3 := Lib.hid r3
  have B3 := Lib.hid (btrans B2.out b3)
  have K3 := Lib.hid (K2.out.below b3 K2.out.lt)
  have hl3 : L3.length ≤ 13 := by
    have h9 := nums_len _ HZ.out
    rw [hL3, List.length_append]
    simp only [List.length_cons, List.length_nil] at h9 hl2 ⊢
    omega
  clear hL3 r3 b3 x0 x14 x15 x16 x17
  clear HZ BA3
  have x0 := K3.out.cell 0
  have hlen4 := HF.out.2.2.2.1
  go_wp2_with fail
  go_loopw [4, 7] (fun v y wr => ∃ (k : Nat) (A : Option Addr) (c : Nat) (L : List UInt8), k ≤ x.prod.seen.length ∧ y = .int .i64 k ∧ L = L3 ++ (x.prod.seen.take k).flatMap encSn ∧ v = .slice A L.length c ∧ Reads wr wr.heap.size 1 A L.length (cellsB L) ∧ Below w.heap.size w wr ∧ Blk wr w.heap.size 32 #[.int .i8 x.kd, .int .i64 x.b.pid, .int .i64 x.b.ep, .int .i64 x.b.seq, .bool x.b.txn, .slice A1 x.b.rs.length c1, .bool x.yes, .int .i64 x.nx, .int .i64 x.off, .int .i64 x.row.1, .int .i64 x.row.2.1, .int .i64 x.row.2.2.1, .string x.row.2.2.2.1, .string x.row.2.2.2.2, .int .i64 x.prod.pid, .int .i64 x.prod.ep, .int .i64 x.prod.nx, .slice D1 x.prod.seen.length e1]) (fun _ y _ => x.prod.seen.length - (intOf y).toNat)
  case atStart => exact ⟨0, A3', c3', L3, Nat.zero_le _, rfl, by simp, rfl, R3.out, B3.out, K3.out⟩
  case round =>
    obtain ⟨k, A, c, L, hk, rfl, hL, rfl, hrd, hbel, hblk⟩ := hrel
    have RD := Lib.hid hrd
    have BEL := Lib.hid hbel
    have HL := Lib.hid hL
    have KB := Lib.hid hblk
    have x17 := hblk.cell 17
    have hlb := hblk.lt
    have hle := encSns_len (x.prod.seen.take k) (fun y hy => HF.out.2.2.2.2 y (List.mem_of_mem_take hy))
    rw [List.length_take] at hle
    have hll : L.length ≤ 100 := by rw [hL, List.length_append]; omega
    clear hrd hL hblk hle x0
    by_cases hlt : k < x.prod.seen.length
    · have d1 : decide ((k : Int) < (x.prod.seen.length : Int)) = true := by simp; omega
      obtain ⟨r, hx⟩ : ∃ z, x.prod.seen[k]? = some z := ⟨_, List.getElem?_eq_getElem hlt⟩
      have HV := Lib.hid (HF.out.2.2.2.2 r (List.mem_of_getElem? hx))
      have HTK := Lib.hid (encSns_take x.prod.seen k r hx)
      obtain ⟨b1, o1, hD, hb1, hc1⟩ := (HRD.out _ hbel).plain3 (by omega)
      obtain ⟨g1, g2, g3⟩ := hc1 k _ hx
      have LS := load_sn g1 g2 g3
      have i1 : (0 : Int) ≤ (k : Int) := by omega
      have i2 : (k : Int) < (x.prod.seen.length : Int) := by omega
      obtain ⟨v1, v2, v3⟩ := HV.out
      have cw : IntKind.i64.wrap (r.2.2 + 1) = r.2.2 + 1 := IntWalk.i64_in _ (by omega)
      have HZ := Lib.hid (show ∀ z ∈ ([r.1, r.2.1, r.2.2 + 1] : List Int), 0 ≤ z ∧ z ≤ 1048577 by simp only [List.mem_cons, List.not_mem_nil, or_false]; rintro z hz; omega)
      have BA := Lib.hid (bal (bal (Below.refl wr.heap.size wr) (.cells #[.int .i64 r.1, .int .i64 r.2.1, .int .i64 r.2.2] 73)) (.cells #[.int .i64 r.1, .int .i64 r.2.1, .int .i64 (r.2.2 + 1)] 3))
      have M1 := Lib.hid (rnumbers_any A L c (wr.heap.size + 1) [r.1, r.2.1, r.2.2 + 1] 3 ((wr.alloc (.cells #[.int .i64 r.1, .int .i64 r.2.1, .int .i64 r.2.2] 73)).alloc (.cells #[.int .i64 r.1, .int .i64 r.2.1, .int .i64 (r.2.2 + 1)] 3)) (((RD.out.alloc (Nat.le_refl _) _).alloc (by simp) _).more (by simp; omega)) (by simp) (ints_new (wr.alloc (.cells #[.int .i64 r.1, .int .i64 r.2.1, .int .i64 r.2.2] 73)) [r.1, r.2.1, r.2.2 + 1] 3 _ (by simp)) HZ.out (by simp only [List.length_cons, List.length_nil]; omega))
      clear hc1 hx g1 g2 g3 hbel v1 v2 v3
      subst hD
      go_wp2_with fail
      refine M1.out.mono ?_
      rintro e w4 ⟨A4', c4', rfl, r4, b4⟩
      obtain ⟨L4, hL4⟩ : ∃ L', L' = L ++ [r.1, r.2.1, r.2.2 + 1].flatMap fun z => enc z.toNat := ⟨_, rfl⟩
      rw [← hL4] at r4
      rw [← hL4]
      have hfin : L4 = L3 ++ (x.prod.seen.take (k + 1)).flatMap encSn := by
        have e : encSn r = [r.1, r.2.1, r.2.2 + 1].flatMap fun z => enc z.toNat := by unfold encSn; simp
        rw [HTK.out, ← List.append_assoc, ← HL.out, hL4, e]
      have HFIN := Lib.hid hfin
      have R4 := Lib.hid r4
      have b5 := btrans BA.out b4
      have B5 := Lib.hid (btrans BEL.out b5)
      have K5 := Lib.hid (KB.out.below b5 KB.out.lt)
      clear hfin hL4 r4 b4 b5 LS
      go_wp2_with fail
      go_roundw
      case rel => exact ⟨k + 1, A4', c4', L4, by omega, by go_num, HFIN.out, rfl, R4.out, B5.out, K5.out⟩
      case measure => simp [intOf]; omega
    · obtain rfl : k = x.prod.seen.length := by omega
      have d1 : decide ((x.prod.seen.length : Int) < (x.prod.seen.length : Int)) = false := by simp
      have hfin : L = LF := by rw [HL.out, List.take_length, HL3.out, HENC.out]; simp
      have HFIN := Lib.hid hfin
      clear hfin hbel
      have t1 := run_string_of (P := Tryz.prog) (c := c) Tryz.underlying46 Tryz.underlying5 Tryz.underlying9 RD.out
      go_wp2_with fail
      go_ret2
      exact ⟨by rw [← HFIN.out]; rfl, BEL.out⟩
end
theorem rEnBytes_any (x : En) (hm : mayEn x = true) (A1 D1 : Option Addr) (c1 e1 : Nat) (w : World) (hr : EnR w x A1 D1) :
    Calls Tryz.prog 12 #[(.agg #[.int .i8 x.kd, .int .i64 x.b.pid, .int .i64 x.b.ep, .int .i64 x.b.seq, .bool x.b.txn, .slice A1 x.b.rs.length c1, .bool x.yes, .int .i64 x.nx, .int .i64 x.off, .int .i64 x.row.1, .int .i64 x.row.2.1, .int .i64 x.row.2.2.1, .string x.row.2.2.2.1, .string x.row.2.2.2.2, .int .i64 x.prod.pid, .int .i64 x.prod.ep, .int .i64 x.prod.nx, .slice D1 x.prod.seen.length e1])] w (EbPost (encEn x) 0 w) := by
  by_cases h0 : x.kd = 0
  · exact rEnBytes_0 x h0 hm A1 D1 c1 e1 w hr
  by_cases h1 : x.kd = 1
  · exact rEnBytes_1 x h1 hm A1 D1 c1 e1 w hr
  by_cases h2 : x.kd = 2
  · exact rEnBytes_2 x h2 hm A1 D1 c1 e1 w hr
  by_cases h3 : x.kd = 3
  · have hyy : x.yes = false ∨ x.yes = true := by cases x.yes <;> simp
    rcases hyy with hy | hy
    · exact rEnBytes_3f x h3 hy hm A1 D1 c1 e1 w hr
    · exact rEnBytes_3t x h3 hy hm A1 D1 c1 e1 w hr
  by_cases h4 : x.kd = 4
  · exact rEnBytes_4 x h4 hm A1 D1 c1 e1 w hr
  by_cases h5 : x.kd = 5
  · exact rEnBytes_5 x h5 hm A1 D1 c1 e1 w hr
  by_cases h6 : x.kd = 6
  · exact rEnBytes_6 x h6 hm A1 D1 c1 e1 w hr
  · unfold mayEn okEn at hm
    rw [if_neg h3, if_neg h0, if_neg h4, if_neg h1, if_neg h2, if_neg h5, if_neg h6] at hm
    cases hm
end Go.Proofs.YtckdecodpjfcnaaGreatDoor
namespace Go.Proofs.YtckdecodpjfcnaaGreatDoor
open Go.RowKit

def bigR7 (r : Rec) : Bool := decide (200 < r.1.size) || decide (200 < r.2.size)
def headG (x : En) : Bool := decide (40 < x.b.rs.length) || (decide (200 < x.row.2.2.2.1.size) || (decide (200 < x.row.2.2.2.2.size) || decide (40 < x.prod.seen.length)))
/-- An entry that is too great. -/
def greatEn (x : En) : Bool := headG x || x.b.rs.any bigR7
theorem not_greatEn {x : En} (h : greatEn x = false) : x.b.rs.length ≤ 40 ∧ x.prod.seen.length ≤ 40 := by
  unfold greatEn headG at h
  simp only [Bool.or_eq_false_iff, decide_eq_false_iff_not] at h
  omega
set_option maxRecDepth 100000 in
set_option maxHeartbeats 2000000 in
theorem EnGreat_any (x : En) (A1 D1 : Option Addr) (c1 e1 : Nat) (w : World) (hr : Reads w w.heap.size 2 A1 x.b.rs.length (cellsR x.b.rs)) :
    Calls Tryz.prog 9 #[(.agg #[.int .i8 x.kd, .int .i64 x.b.pid, .int .i64 x.b.ep, .int .i64 x.b.seq, .bool x.b.txn, .slice A1 x.b.rs.length c1, .bool x.yes, .int .i64 x.nx, .int .i64 x.off, .int .i64 x.row.1, .int .i64 x.row.2.1, .int .i64 x.row.2.2.1, .string x.row.2.2.2.1, .string x.row.2.2.2.2, .int .i64 x.prod.pid, .int .i64 x.prod.ep, .int .i64 x.prod.nx, .slice D1 x.prod.seen.length e1])] w fun e w' => e = .returned (.bool (greatEn x)) ∧ Below w.heap.size w w' := by
  have HR := Lib.hid (hr.alloc (Nat.le_refl _) (.cells #[.int .i8 x.kd, .int .i64 x.b.pid, .int .i64 x.b.ep, .int .i64 x.b.seq, .bool x.b.txn, .slice A1 x.b.rs.length c1, .bool x.yes, .int .i64 x.nx, .int .i64 x.off, .int .i64 x.row.1, .int .i64 x.row.2.1, .int .i64 x.row.2.2.1, .string x.row.2.2.2.1, .string x.row.2.2.2.2, .int .i64 x.prod.pid, .int .i64 x.prod.ep, .int .i64 x.prod.nx, .slice D1 x.prod.seen.length e1] 32))
  have HB := Lib.hid (bal (Below.refl w.heap.size w) (.cells #[.int .i8 x.kd, .int .i64 x.b.pid, .int .i64 x.b.ep, .int .i64 x.b.seq, .bool x.b.txn, .slice A1 x.b.rs.length c1, .bool x.yes, .int .i64 x.nx, .int .i64 x.off, .int .i64 x.row.1, .int .i64 x.row.2.1, .int .i64 x.row.2.2.1, .string x.row.2.2.2.1, .string x.row.2.2.2.2, .int .i64 x.prod.pid, .int .i64 x.prod.ep, .int .i64 x.prod.nx, .slice D1 x.prod.seen.length e1] 32))
  have HG := Lib.hid (show greatEn x = (headG x || x.b.rs.any bigR7) from rfl)
  have HH := Lib.hid (show headG x = (decide (40 < x.b.rs.length) || (decide (200 < x.row.2.2.2.1.size) || (decide (200 < x.row.2.2.2.2.size) || decide (40 < x.prod.seen.length)))) from rfl)
  have kb := Blk.new w 32 #[.int .i8 x.kd, .int .i64 x.b.pid, .int .i64 x.b.ep, .int .i64 x.b.seq, .bool x.b.txn, .slice A1 x.b.rs.length c1, .bool x.yes, .int .i64 x.nx, .int .i64 x.off, .int .i64 x.row.1, .int .i64 x.row.2.1, .int .i64 x.row.2.2.1, .string x.row.2.2.2.1, .string x.row.2.2.2.2, .int .i64 x.prod.pid, .int .i64 x.prod.ep, .int .i64 x.prod.nx, .slice D1 x.prod.seen.length e1]
  have x5 := kb.cell 5
  have x12 := kb.cell 12
  have x13 := kb.cell 13
  have x17 := kb.cell 17
  clear hr kb
  by_cases h1 : 40 < x.b.rs.length
  · have d1 : decide ((40 : Int) < (x.b.rs.length : Int)) = true := by simp; omega
    have HF := Lib.hid (show greatEn x = true by rw [HG.out, HH.out, decide_eq_true h1]; rfl)
    clear h1
    go_enter Tryz.func9, Tryz.ntmps9
    go_wp2_with fail
    go_ret
    exact ⟨ret_bool HF.out.symm, HB.out⟩
  have d1 : decide ((40 : Int) < (x.b.rs.length : Int)) = false := by simp; omega
  by_cases h2 : 200 < x.row.2.2.2.1.size
  · have d2 : decide ((200 : Int) < (x.row.2.2.2.1.size : Int)) = true := by simp; omega
    have HF := Lib.hid (show greatEn x = true by rw [HG.out, HH.out, decide_eq_true h2, decide_eq_false h1]; rfl)
    clear h1 h2
    go_enter Tryz.func9, Tryz.ntmps9
    go_wp2_with fail
    go_ret
    exact ⟨ret_bool HF.out.symm, HB.out⟩
  have d2 : decide ((200 : Int) < (x.row.2.2.2.1.size : Int)) = false := by simp; omega
  by_cases h3 : 200 < x.row.2.2.2.2.size
  · have d3 : decide ((200 : Int) < (x.row.2.2.2.2.size : Int)) = true := by simp; omega
    have HF := Lib.hid (show greatEn x = true by rw [HG.out, HH.out, decide_eq_true h3, decide_eq_false h1, decide_eq_false h2]; rfl)
    clear h1 h2 h3
    go_enter Tryz.func9, Tryz.ntmps9
    go_wp2_with fail
    go_ret
    exact ⟨ret_bool HF.out.symm, HB.out⟩
  have d3 : decide ((200 : Int) < (x.row.2.2.2.2.size : Int)) = false := by simp; omega
  by_cases h4 : 40 < x.prod.seen.length
  · have d4 : decide ((40 : Int) < (x.prod.seen.length : Int)) = true := by simp; omega
    have HF := Lib.hid (show greatEn x = true by rw [HG.out, HH.out, decide_eq_true h4, decide_eq_false h1, decide_eq_false h2, decide_eq_false h3]; rfl)
    clear h1 h2 h3 h4
    go_enter Tryz.func9, Tryz.ntmps9
    go_wp2_with fail
    go_ret
    exact ⟨ret_bool HF.out.symm, HB.out⟩
  have d4 : decide ((40 : Int) < (x.prod.seen.length : Int)) = false := by simp; omega
  have HG2 := Lib.hid (show greatEn x = x.b.rs.any bigR7 by rw [HG.out, HH.out, decide_eq_false h1, decide_eq_false h2, decide_eq_false h3, decide_eq_false h4]; rfl)
  clear h2 h3 h4
  go_enter Tryz.func9, Tryz.ntmps9
  go_wp2_with fail
  generalize hW : w.alloc (.cells #[.int .i8 x.kd, .int .i64 x.b.pid, .int .i64 x.b.ep, .int .i64 x.b.seq, .bool x.b.txn, .slice A1 x.b.rs.length c1, .bool x.yes, .int .i64 x.nx, .int .i64 x.off, .int .i64 x.row.1, .int .i64 x.row.2.1, .int .i64 x.row.2.2.1, .string x.row.2.2.2.1, .string x.row.2.2.2.2, .int .i64 x.prod.pid, .int .i64 x.prod.ep, .int .i64 x.prod.nx, .slice D1 x.prod.seen.length e1] 32) = W at *
  clear hW
  go_loopw [3] (fun y wr => ∃ k : Nat, k ≤ x.b.rs.length ∧ y = .int .i64 k ∧ wr = W ∧ (x.b.rs.take k).any bigR7 = false) (fun y _ => x.b.rs.length - (intOf y).toNat)
  case atStart => exact ⟨0, Nat.zero_le _, rfl, rfl, by simp⟩
  case round =>
    obtain ⟨k, hk, rfl, rfl, hany⟩ := hrel
    have HANY := Lib.hid hany
    clear hany
    by_cases hlt : k < x.b.rs.length
    · have e1 : decide ((k : Int) < (x.b.rs.length : Int)) = true := by simp; omega
      obtain ⟨b1, o1, hA, _, hc1⟩ := HR.out.plain2 (by omega)
      obtain ⟨r, hx⟩ : ∃ z, x.b.rs[k]? = some z := ⟨_, List.getElem?_eq_getElem hlt⟩
      obtain ⟨g1, g2⟩ := hc1 k _ hx
      have HSN := Lib.hid (show (x.b.rs.take (k + 1)).any bigR7 = ((x.b.rs.take k).any bigR7 || bigR7 r) by rw [List.take_add_one, hx]; simp)
      have HBW := Lib.hid (show bigR7 r = (decide (200 < r.1.size) || decide (200 < r.2.size)) from rfl)
      have HMEM := Lib.hid (List.mem_of_getElem? hx)
      have i1 : (0 : Int) ≤ (k : Int) := by omega
      have i2 : (k : Int) < (x.b.rs.length : Int) := by omega
      clear hc1 hx
      subst hA
      by_cases hb1 : 200 < r.1.size
      · have f2 : decide ((200 : Int) < (r.1.size : Int)) = true := by simp; omega
        have HF := Lib.hid (show greatEn x = true by rw [HG2.out, List.any_eq_true]; exact ⟨r, HMEM.out, by rw [HBW.out]; simp [hb1]⟩)
        go_wp2_with fail
        go_ret
        exact ⟨ret_bool HF.out.symm, HB.out⟩
      have f2 : decide ((200 : Int) < (r.1.size : Int)) = false := by simp; omega
      by_cases hb2 : 200 < r.2.size
      · have f3 : decide ((200 : Int) < (r.2.size : Int)) = true := by simp; omega
        have HF := Lib.hid (show greatEn x = true by rw [HG2.out, List.any_eq_true]; exact ⟨r, HMEM.out, by rw [HBW.out]; simp [hb2]⟩)
        go_wp2_with fail
        go_ret
        exact ⟨ret_bool HF.out.symm, HB.out⟩
      have f3 : decide ((200 : Int) < (r.2.size : Int)) = false := by simp; omega
      go_wp2_with fail
      go_roundw
      case rel => exact ⟨k + 1, by omega, by go_num, trivial, by rw [HSN.out, HANY.out, HBW.out]; simp [hb1, hb2]⟩
      case measure => simp [intOf]; omega
    · obtain rfl : k = x.b.rs.length := by omega
      have e1 : decide ((x.b.rs.length : Int) < (x.b.rs.length : Int)) = false := by simp
      have HF := Lib.hid (show greatEn x = false by rw [HG2.out]; have := HANY.out; rwa [List.take_length] at this)
      go_wp2_with fail
      go_ret
      exact ⟨ret_bool HF.out.symm, HB.out⟩
end Go.Proofs.YtckdecodpjfcnaaGreatDoor
namespace Go.Proofs.YtckdecodpjfcnaaGreatDoor
open Go.RowKit

/-- Two entries and two producers lie in memory. -/
def TellM (w : World) (X Y P Q : Array Value) (W : World) : Prop :=
  Below w.heap.size w W ∧ Blk W w.heap.size 32 X ∧ Blk W (w.heap.size + 1) 32 Y ∧ Blk W (w.heap.size + 1 + 1) 30 P ∧ Blk W (w.heap.size + 1 + 1 + 1) 30 Q
theorem TellM.below {w W W' : World} {X Y P Q : Array Value} (h : TellM w X Y P Q W) (k : Below W.heap.size W W') : TellM w X Y P Q W' :=
  ⟨btrans h.1 k, h.2.1.below k h.2.1.lt, h.2.2.1.below k h.2.2.1.lt, h.2.2.2.1.below k h.2.2.2.1.lt, h.2.2.2.2.below k h.2.2.2.2.lt⟩
theorem TellM.b {w W : World} {X Y P Q : Array Value} (h : TellM w X Y P Q W) : Below w.heap.size w W := h.1
def TellS (w : World) (X Y P Q : Array Value) (W : World) : Prop :=
  TellM w X Y P Q W ∧ (loadCells ⟨w.heap.size, 0, none⟩ 18).run Tryz.prog W = .ok X W ∧ (loadCells ⟨w.heap.size + 1, 0, none⟩ 18).run Tryz.prog W = .ok Y W ∧ (loadCells ⟨w.heap.size + 1 + 1, 0, none⟩ 4).run Tryz.prog W = .ok P W ∧ (loadCells ⟨w.heap.size + 1 + 1 + 1, 0, none⟩ 4).run Tryz.prog W = .ok Q W
theorem cells_any {W : World} {b : Nat} {t : TypeId} {cs : Array Value} (n : Nat) (h : Blk W b t cs) (hn : cs.size = n) : (loadCells ⟨b, 0, none⟩ n).run Tryz.prog W = .ok cs W := by
  have := cells_off (cs := cs.toList) (show Blk W b t cs.toList.toArray from h) 0 n (vs := cs.toList) (by rw [List.drop_zero, List.take_of_length_le (by simp; omega)]) (by simpa using hn)
  simpa using this
theorem TellM.all {w W : World} {X Y P Q : Array Value} (h : TellM w X Y P Q W) (h1 : X.size = 18) (h2 : Y.size = 18) (h3 : P.size = 4) (h4 : Q.size = 4) : TellS w X Y P Q W :=
  ⟨h, cells_any 18 h.2.1 h1, cells_any 18 h.2.2.1 h2, cells_any 4 h.2.2.2.1 h3, cells_any 4 h.2.2.2.2 h4⟩
theorem tell_start (w : World) (X Y P Q : Array Value) : TellM w X Y P Q ((((w.alloc (.cells X 32)).alloc (.cells Y 32)).alloc (.cells P 30)).alloc (.cells Q 30)) :=
  ⟨bal (bal (bal (bal (Below.refl _ _) _) _) _) _, (((Blk.new _ _ _).alloc _).alloc _).alloc _, ((blk_new _ _ _ (by simp)).alloc _).alloc _, (blk_new _ _ _ (by simp)).alloc _, blk_new _ _ _ (by simp)⟩
section
attribute [-go_sem] loadCells
set_option maxRecDepth 100000 in
set_option maxHeartbeats 4000000 in
theorem etell_big1 (x y : En) (p q : Pd) (A1 D1 A2 D2 D3 D4 : Option Addr) (c1 e1 c2 e2 e3 e4 : Nat) (w : World) (hg : HasET w) (h1 : Reads w w.heap.size 2 A1 x.b.rs.length (cellsR x.b.rs)) (n1 : greatEn x = true) :
    Calls Tryz.prog 3 #[(.agg #[.int .i8 x.kd, .int .i64 x.b.pid, .int .i64 x.b.ep, .int .i64 x.b.seq, .bool x.b.txn, .slice A1 x.b.rs.length c1, .bool x.yes, .int .i64 x.nx, .int .i64 x.off, .int .i64 x.row.1, .int .i64 x.row.2.1, .int .i64 x.row.2.2.1, .string x.row.2.2.2.1, .string x.row.2.2.2.2, .int .i64 x.prod.pid, .int .i64 x.prod.ep, .int .i64 x.prod.nx, .slice D1 x.prod.seen.length e1]), (.agg #[.int .i8 y.kd, .int .i64 y.b.pid, .int .i64 y.b.ep, .int .i64 y.b.seq, .bool y.b.txn, .slice A2 y.b.rs.length c2, .bool y.yes, .int .i64 y.nx, .int .i64 y.off, .int .i64 y.row.1, .int .i64 y.row.2.1, .int .i64 y.row.2.2.1, .string y.row.2.2.2.1, .string y.row.2.2.2.2, .int .i64 y.prod.pid, .int .i64 y.prod.ep, .int .i64 y.prod.nx, .slice D2 y.prod.seen.length e2]), (.agg #[.int .i64 p.pid, .int .i64 p.ep, .int .i64 p.nx, .slice D3 p.seen.length e3]), (.agg #[.int .i64 q.pid, .int .i64 q.ep, .int .i64 q.nx, .slice D4 q.seen.length e4])] w fun e w' => e = .returned (.bool true) ∧ Below w.heap.size w w' := by
  have TM := tell_start w #[.int .i8 x.kd, .int .i64 x.b.pid, .int .i64 x.b.ep, .int .i64 x.b.seq, .bool x.b.txn, .slice A1 x.b.rs.length c1, .bool x.yes, .int .i64 x.nx, .int .i64 x.off, .int .i64 x.row.1, .int .i64 x.row.2.1, .int .i64 x.row.2.2.1, .string x.row.2.2.2.1, .string x.row.2.2.2.2, .int .i64 x.prod.pid, .int .i64 x.prod.ep, .int .i64 x.prod.nx, .slice D1 x.prod.seen.length e1] #[.int .i8 y.kd, .int .i64 y.b.pid, .int .i64 y.b.ep, .int .i64 y.b.seq, .bool y.b.txn, .slice A2 y.b.rs.length c2, .bool y.yes, .int .i64 y.nx, .int .i64 y.off, .int .i64 y.row.1, .int .i64 y.row.2.1, .int .i64 y.row.2.2.1, .string y.row.2.2.2.1, .string y.row.2.2.2.2, .int .i64 y.prod.pid, .int .i64 y.prod.ep, .int .i64 y.prod.nx, .slice D2 y.prod.seen.length e2] #[.int .i64 p.pid, .int .i64 p.ep, .int .i64 p.nx, .slice D3 p.seen.length e3] #[.int .i64 q.pid, .int .i64 q.ep, .int .i64 q.nx, .slice D4 q.seen.length e4]
  have g1 := EnGreat_any x A1 D1 c1 e1 _ ((h1.below TM.1).more TM.1.size)
  rw [n1] at g1
  have G1 := Lib.hid g1
  have T0 := Lib.hid TM
  have LX := (TM.all rfl rfl rfl rfl).2.1
  have WK := Lib.hid (fun W (h : Below w.heap.size w W) => wakes07 W (hg.up h))
  clear hg h1 n1 g1 TM
  go_enter Tryz.func3, Tryz.ntmps3
  go_wp2_with fail
  refine G1.out.mono ?_
  rintro e w1 ⟨rfl, b1⟩
  have B1 := Lib.hid (btrans T0.out.1 b1)
  go_wp2_with fail
  refine (WK.out _ B1.out).mono ?_
  rintro e w2 ⟨rfl, b2⟩
  go_wp2_with fail
  go_ret
  exact ⟨rfl, btrans B1.out b2⟩
set_option maxRecDepth 100000 in
set_option maxHeartbeats 4000000 in
theorem etell_big2 (x y : En) (p q : Pd) (A1 D1 A2 D2 D3 D4 : Option Addr) (c1 e1 c2 e2 e3 e4 : Nat) (w : World) (hg : HasET w) (h1 : Reads w w.heap.size 2 A1 x.b.rs.length (cellsR x.b.rs)) (h2 : Reads w w.heap.size 2 A2 y.b.rs.length (cellsR y.b.rs)) (n1 : greatEn x = false) (n2 : greatEn y = true ∨ (greatEn y = false ∧ (40 < p.seen.length ∨ (¬ 40 < p.seen.length ∧ 40 < q.seen.length)))) :
    Calls Tryz.prog 3 #[(.agg #[.int .i8 x.kd, .int .i64 x.b.pid, .int .i64 x.b.ep, .int .i64 x.b.seq, .bool x.b.txn, .slice A1 x.b.rs.length c1, .bool x.yes, .int .i64 x.nx, .int .i64 x.off, .int .i64 x.row.1, .int .i64 x.row.2.1, .int .i64 x.row.2.2.1, .string x.row.2.2.2.1, .string x.row.2.2.2.2, .int .i64 x.prod.pid, .int .i64 x.prod.ep, .int .i64 x.prod.nx, .slice D1 x.prod.seen.length e1]), (.agg #[.int .i8 y.kd, .int .i64 y.b.pid, .int .i64 y.b.ep, .int .i64 y.b.seq, .bool y.b.txn, .slice A2 y.b.rs.length c2, .bool y.yes, .int .i64 y.nx, .int .i64 y.off, .int .i64 y.row.1, .int .i64 y.row.2.1, .int .i64 y.row.2.2.1, .string y.row.2.2.2.1, .string y.row.2.2.2.2, .int .i64 y.prod.pid, .int .i64 y.prod.ep, .int .i64 y.prod.nx, .slice D2 y.prod.seen.length e2]), (.agg #[.int .i64 p.pid, .int .i64 p.ep, .int .i64 p.nx, .slice D3 p.seen.length e3]), (.agg #[.int .i64 q.pid, .int .i64 q.ep, .int .i64 q.nx, .slice D4 q.seen.length e4])] w fun e w' => e = .returned (.bool true) ∧ Below w.heap.size w w' := by
  have TM := tell_start w #[.int .i8 x.kd, .int .i64 x.b.pid, .int .i64 x.b.ep, .int .i64 x.b.seq, .bool x.b.txn, .slice A1 x.b.rs.length c1, .bool x.yes, .int .i64 x.nx, .int .i64 x.off, .int .i64 x.row.1, .int .i64 x.row.2.1, .int .i64 x.row.2.2.1, .string x.row.2.2.2.1, .string x.row.2.2.2.2, .int .i64 x.prod.pid, .int .i64 x.prod.ep, .int .i64 x.prod.nx, .slice D1 x.prod.seen.length e1] #[.int .i8 y.kd, .int .i64 y.b.pid, .int .i64 y.b.ep, .int .i64 y.b.seq, .bool y.b.txn, .slice A2 y.b.rs.length c2, .bool y.yes, .int .i64 y.nx, .int .i64 y.off, .int .i64 y.row.1, .int .i64 y.row.2.1, .int .i64 y.row.2.2.1, .string y.row.2.2.2.1, .string y.row.2.2.2.2, .int .i64 y.prod.pid, .int .i64 y.prod.ep, .int .i64 y.prod.nx, .slice D2 y.prod.seen.length e2] #[.int .i64 p.pid, .int .i64 p.ep, .int .i64 p.nx, .slice D3 p.seen.length e3] #[.int .i64 q.pid, .int .i64 q.ep, .int .i64 q.nx, .slice D4 q.seen.length e4]
  have g1 := EnGreat_any x A1 D1 c1 e1 _ ((h1.below TM.1).more TM.1.size)
  rw [n1] at g1
  have G1 := Lib.hid g1
  have G2 := Lib.hid (fun W (h : Below w.heap.size w W) => EnGreat_any y A2 D2 c2 e2 W ((h2.below h).more h.size))
  have T0 := Lib.hid TM
  have LX := (TM.all rfl rfl rfl rfl).2.1
  have WK := Lib.hid (fun W (h : Below w.heap.size w W) => wakes07 W (hg.up h))
  have N2 := Lib.hid n2
  clear hg h1 h2 n1 g1 TM n2
  go_enter Tryz.func3, Tryz.ntmps3
  go_wp2_with fail
  refine G1.out.mono ?_
  rintro e w1 ⟨rfl, b1⟩
  have T1 := Lib.hid (T0.out.below b1)
  have LY := (T1.out.all rfl rfl rfl rfl).2.2.1
  clear LX b1
  go_wp2_with fail
  refine (G2.out _ T1.out.1).mono ?_
  rintro e w2 ⟨rfl, b2⟩
  have T2 := Lib.hid (T1.out.below b2)
  have p3 := T2.out.2.2.2.1.cell 3
  have q3 := T2.out.2.2.2.2.cell 3
  clear LY b2
  rcases N2.out with n2 | ⟨n2, n3 | ⟨n3, n4⟩⟩
  · rw [n2]
    clear n2
    go_wp2_with fail
    refine (WK.out _ T2.out.1).mono ?_
    rintro e w3 ⟨rfl, b3⟩
    go_wp2_with fail
    go_ret
    exact ⟨rfl, btrans T2.out.1 b3⟩
  · rw [n2]
    have d3 : decide ((40 : Int) < (p.seen.length : Int)) = true := by simp; omega
    clear n2 n3
    go_wp2_with fail
    refine (WK.out _ T2.out.1).mono ?_
    rintro e w3 ⟨rfl, b3⟩
    go_wp2_with fail
    go_ret
    exact ⟨rfl, btrans T2.out.1 b3⟩
  · rw [n2]
    have d3 : decide ((40 : Int) < (p.seen.length : Int)) = false := by simp; omega
    have d4 : decide ((40 : Int) < (q.seen.length : Int)) = true := by simp; omega
    clear n2 n3 n4
    go_wp2_with fail
    refine (WK.out _ T2.out.1).mono ?_
    rintro e w3 ⟨rfl, b3⟩
    go_wp2_with fail
    go_ret
    exact ⟨rfl, btrans T2.out.1 b3⟩
set_option maxRecDepth 100000 in
set_option maxHeartbeats 8000000 in
theorem etell_ok (x y : En) (p q : Pd) (A1 D1 A2 D2 D3 D4 : Option Addr) (c1 e1 c2 e2 e3 e4 : Nat) (w : World) (hg : HasET w) (h1 : EnR w x A1 D1) (h2 : EnR w y A2 D2) (h3 : Reads w w.heap.size 3 D3 p.seen.length (cellsN p.seen)) (h4 : Reads w w.heap.size 3 D4 q.seen.length (cellsN q.seen)) (n1 : greatEn x = false) (n2 : greatEn y = false) (n3 : ¬ 40 < p.seen.length) (n4 : ¬ 40 < q.seen.length) :
    Calls Tryz.prog 3 #[(.agg #[.int .i8 x.kd, .int .i64 x.b.pid, .int .i64 x.b.ep, .int .i64 x.b.seq, .bool x.b.txn, .slice A1 x.b.rs.length c1, .bool x.yes, .int .i64 x.nx, .int .i64 x.off, .int .i64 x.row.1, .int .i64 x.row.2.1, .int .i64 x.row.2.2.1, .string x.row.2.2.2.1, .string x.row.2.2.2.2, .int .i64 x.prod.pid, .int .i64 x.prod.ep, .int .i64 x.prod.nx, .slice D1 x.prod.seen.length e1]), (.agg #[.int .i8 y.kd, .int .i64 y.b.pid, .int .i64 y.b.ep, .int .i64 y.b.seq, .bool y.b.txn, .slice A2 y.b.rs.length c2, .bool y.yes, .int .i64 y.nx, .int .i64 y.off, .int .i64 y.row.1, .int .i64 y.row.2.1, .int .i64 y.row.2.2.1, .string y.row.2.2.2.1, .string y.row.2.2.2.2, .int .i64 y.prod.pid, .int .i64 y.prod.ep, .int .i64 y.prod.nx, .slice D2 y.prod.seen.length e2]), (.agg #[.int .i64 p.pid, .int .i64 p.ep, .int .i64 p.nx, .slice D3 p.seen.length e3]), (.agg #[.int .i64 q.pid, .int .i64 q.ep, .int .i64 q.nx, .slice D4 q.seen.length e4])] w fun e w' => e = .returned (.bool true) ∧ Below w.heap.size w w' := by
  have TM := tell_start w #[.int .i8 x.kd, .int .i64 x.b.pid, .int .i64 x.b.ep, .int .i64 x.b.seq, .bool x.b.txn, .slice A1 x.b.rs.length c1, .bool x.yes, .int .i64 x.nx, .int .i64 x.off, .int .i64 x.row.1, .int .i64 x.row.2.1, .int .i64 x.row.2.2.1, .string x.row.2.2.2.1, .string x.row.2.2.2.2, .int .i64 x.prod.pid, .int .i64 x.prod.ep, .int .i64 x.prod.nx, .slice D1 x.prod.seen.length e1] #[.int .i8 y.kd, .int .i64 y.b.pid, .int .i64 y.b.ep, .int .i64 y.b.seq, .bool y.b.txn, .slice A2 y.b.rs.length c2, .bool y.yes, .int .i64 y.nx, .int .i64 y.off, .int .i64 y.row.1, .int .i64 y.row.2.1, .int .i64 y.row.2.2.1, .string y.row.2.2.2.1, .string y.row.2.2.2.2, .int .i64 y.prod.pid, .int .i64 y.prod.ep, .int .i64 y.prod.nx, .slice D2 y.prod.seen.length e2] #[.int .i64 p.pid, .int .i64 p.ep, .int .i64 p.nx, .slice D3 p.seen.length e3] #[.int .i64 q.pid, .int .i64 q.ep, .int .i64 q.nx, .slice D4 q.seen.length e4]
  have g1 := EnGreat_any x A1 D1 c1 e1 _ (h1.up TM.1).1
  rw [n1] at g1
  have G1 := Lib.hid g1
  have G2 := Lib.hid (fun (W : World) (h : Below w.heap.size w W) => show Calls Tryz.prog 9 #[(.agg #[.int .i8 y.kd, .int .i64 y.b.pid, .int .i64 y.b.ep, .int .i64 y.b.seq, .bool y.b.txn, .slice A2 y.b.rs.length c2, .bool y.yes, .int .i64 y.nx, .int .i64 y.off, .int .i64 y.row.1, .int .i64 y.row.2.1, .int .i64 y.row.2.2.1, .string y.row.2.2.2.1, .string y.row.2.2.2.2, .int .i64 y.prod.pid, .int .i64 y.prod.ep, .int .i64 y.prod.nx, .slice D2 y.prod.seen.length e2])] W (fun e w' => e = .returned (.bool false) ∧ Below W.heap.size W w') from by
    have := EnGreat_any y A2 D2 c2 e2 W (h2.up h).1
    rw [n2] at this
    exact this)
  have hy : ∃ (L : List UInt8) (n : Int), (∀ W, Below w.heap.size w W → Calls Tryz.prog 11 #[(.agg #[.int .i8 x.kd, .int .i64 x.b.pid, .int .i64 x.b.ep, .int .i64 x.b.seq, .bool x.b.txn, .slice A1 x.b.rs.length c1, .bool x.yes, .int .i64 x.nx, .int .i64 x.off, .int .i64 x.row.1, .int .i64 x.row.2.1, .int .i64 x.row.2.2.1, .string x.row.2.2.2.1, .string x.row.2.2.2.2, .int .i64 x.prod.pid, .int .i64 x.prod.ep, .int .i64 x.prod.nx, .slice D1 x.prod.seen.length e1])] W (EbPost L n W)) ∧ (∀ W, Below w.heap.size w W → Calls Tryz.prog 12 #[(.agg #[.int .i8 x.kd, .int .i64 x.b.pid, .int .i64 x.b.ep, .int .i64 x.b.seq, .bool x.b.txn, .slice A1 x.b.rs.length c1, .bool x.yes, .int .i64 x.nx, .int .i64 x.off, .int .i64 x.row.1, .int .i64 x.row.2.1, .int .i64 x.row.2.2.1, .string x.row.2.2.2.1, .string x.row.2.2.2.2, .int .i64 x.prod.pid, .int .i64 x.prod.ep, .int .i64 x.prod.nx, .slice D1 x.prod.seen.length e1])] W (EbPost L n W)) := by
    cases hm : mayEn x
    · exact ⟨[], 2, fun W h => EnBytes_no x hm A1 D1 c1 e1 W (h1.up h), fun W h => rEnBytes_no x hm A1 D1 c1 e1 W (h1.up h)⟩
    · exact ⟨encEn x, 0, fun W h => EnBytes_any x hm A1 D1 c1 e1 W (hg.up h) (h1.up h), fun W h => rEnBytes_any x hm A1 D1 c1 e1 W (h1.up h)⟩
  obtain ⟨L, n, y1, y2⟩ := hy
  have Y1 := Lib.hid y1
  have Y2 := Lib.hid y2
  have M1 := Lib.hid (fun W (h : Below w.heap.size w W) => EnMay_any x A1 D1 c1 e1 W (h1.up h))
  have M2 := Lib.hid (fun W (h : Below w.heap.size w W) => rEnMay_any x A1 D1 c1 e1 W (h1.up h))
  have S1 := Lib.hid (fun W (h : Below w.heap.size w W) => EnSame_any x y A1 D1 A2 D2 c1 e1 c2 e2 W (h1.up h) (h2.up h))
  have S2 := Lib.hid (fun W (h : Below w.heap.size w W) => rEnSame_any x y A1 D1 A2 D2 c1 e1 c2 e2 W (h1.up h) (h2.up h))
  have K1 := Lib.hid (fun W (h : Below w.heap.size w W) => Known_any p D3 e3 W ((h3.below h).more h.size))
  have K2 := Lib.hid (fun W (h : Below w.heap.size w W) => rKnown_any p D3 e3 W ((h3.below h).more h.size))
  have P1 := Lib.hid (fun W (h : Below w.heap.size w W) => SamePd_any p q D3 D4 e3 e4 W ((h3.below h).more h.size) ((h4.below h).more h.size) (by omega))
  have P2 := Lib.hid (fun W (h : Below w.heap.size w W) => rSamePd_any p q D3 D4 e3 e4 W ((h3.below h).more h.size) ((h4.below h).more h.size) (by omega))
  have d3 : decide ((40 : Int) < (p.seen.length : Int)) = false := by simp; omega
  have d4 : decide ((40 : Int) < (q.seen.length : Int)) = false := by simp; omega
  generalize mayEn x = q1 at *
  generalize sameEn x y = q2 at *
  generalize knownB p = q3 at *
  generalize samePd p q = q4 at *
  generalize bs L = q5 at *
  have T0 := Lib.hid TM
  have LX := (TM.all rfl rfl rfl rfl).2.1
  have WK := Lib.hid (fun W (h : Below w.heap.size w W) => wakes07 W (hg.up h))
  clear hg h1 h2 h3 h4 n1 n2 n3 n4 g1 TM y1 y2
  go_enter Tryz.func3, Tryz.ntmps3
  go_wp2_with fail
  refine G1.out.mono ?_
  rintro e w1 ⟨rfl, b1⟩
  have T1 := Lib.hid (T0.out.below b1)
  have LY := (T1.out.all rfl rfl rfl rfl).2.2.1
  clear LX b1
  go_wp2_with fail
  refine (G2.out _ T1.out.1).mono ?_
  rintro e w2 ⟨rfl, b2⟩
  have T2 := Lib.hid (T1.out.below b2)
  have p3 := T2.out.2.2.2.1.cell 3
  have q3 := T2.out.2.2.2.2.cell 3
  have LX := (T2.out.all rfl rfl rfl rfl).2.1
  clear LY b2
  go_wp2_with fail
  refine (Y1.out _ T2.out.1).mono ?_
  rintro e w3 ⟨rfl, b3⟩
  have T3 := Lib.hid (T2.out.below b3)
  clear LX b3 p3 q3
  have LX := (T3.out.all rfl rfl rfl rfl).2.1
  go_wp2_with fail
  refine (Y2.out _ T3.out.1).mono ?_
  rintro e w4 ⟨rfl, b4⟩
  have T4 := Lib.hid (T3.out.below b4)
  clear LX b4
  go_upto_region 5 with (fail)
  go_region_held3 (fun W => TellM w #[.int .i8 x.kd, .int .i64 x.b.pid, .int .i64 x.b.ep, .int .i64 x.b.seq, .bool x.b.txn, .slice A1 x.b.rs.length c1, .bool x.yes, .int .i64 x.nx, .int .i64 x.off, .int .i64 x.row.1, .int .i64 x.row.2.1, .int .i64 x.row.2.2.1, .string x.row.2.2.2.1, .string x.row.2.2.2.2, .int .i64 x.prod.pid, .int .i64 x.prod.ep, .int .i64 x.prod.nx, .slice D1 x.prod.seen.length e1] #[.int .i8 y.kd, .int .i64 y.b.pid, .int .i64 y.b.ep, .int .i64 y.b.seq, .bool y.b.txn, .slice A2 y.b.rs.length c2, .bool y.yes, .int .i64 y.nx, .int .i64 y.off, .int .i64 y.row.1, .int .i64 y.row.2.1, .int .i64 y.row.2.2.1, .string y.row.2.2.2.1, .string y.row.2.2.2.2, .int .i64 y.prod.pid, .int .i64 y.prod.ep, .int .i64 y.prod.nx, .slice D2 y.prod.seen.length e2] #[.int .i64 p.pid, .int .i64 p.ep, .int .i64 p.nx, .slice D3 p.seen.length e3] #[.int .i64 q.pid, .int .i64 q.ep, .int .i64 q.nx, .slice D4 q.seen.length e4] W ∧ (loadCells ⟨w.heap.size, 0, none⟩ 18).run Tryz.prog W = .ok #[.int .i8 x.kd, .int .i64 x.b.pid, .int .i64 x.b.ep, .int .i64 x.b.seq, .bool x.b.txn, .slice A1 x.b.rs.length c1, .bool x.yes, .int .i64 x.nx, .int .i64 x.off, .int .i64 x.row.1, .int .i64 x.row.2.1, .int .i64 x.row.2.2.1, .string x.row.2.2.2.1, .string x.row.2.2.2.2, .int .i64 x.prod.pid, .int .i64 x.prod.ep, .int .i64 x.prod.nx, .slice D1 x.prod.seen.length e1] W ∧ (loadCells ⟨w.heap.size + 1, 0, none⟩ 18).run Tryz.prog W = .ok #[.int .i8 y.kd, .int .i64 y.b.pid, .int .i64 y.b.ep, .int .i64 y.b.seq, .bool y.b.txn, .slice A2 y.b.rs.length c2, .bool y.yes, .int .i64 y.nx, .int .i64 y.off, .int .i64 y.row.1, .int .i64 y.row.2.1, .int .i64 y.row.2.2.1, .string y.row.2.2.2.1, .string y.row.2.2.2.2, .int .i64 y.prod.pid, .int .i64 y.prod.ep, .int .i64 y.prod.nx, .slice D2 y.prod.seen.length e2] W ∧ (loadCells ⟨w.heap.size + 1 + 1, 0, none⟩ 4).run Tryz.prog W = .ok #[.int .i64 p.pid, .int .i64 p.ep, .int .i64 p.nx, .slice D3 p.seen.length e3] W ∧ (loadCells ⟨w.heap.size + 1 + 1 + 1, 0, none⟩ 4).run Tryz.prog W = .ok #[.int .i64 q.pid, .int .i64 q.ep, .int .i64 q.nx, .slice D4 q.seen.length e4] W)
    (first | exact (T4.out.below (Below.refl _ _).drew).all rfl rfl rfl rfl | (go_split_ands; exact (TellM.below (by assumption) hb).all rfl rfl rfl rfl))
    (first
      | (go_at_call 10; refine (WK.out _ (by go_split_ands; exact TellM.b (by assumption))).mono ?_; rintro e w' ⟨rfl, hb⟩)
      | (go_at_call 13; refine (M1.out _ (by go_split_ands; exact TellM.b (by assumption))).mono ?_; rintro e w' ⟨rfl, hb⟩)
      | (go_at_call 14; refine (M2.out _ (by go_split_ands; exact TellM.b (by assumption))).mono ?_; rintro e w' ⟨rfl, hb⟩)
      | (go_at_call 15; refine (S1.out _ (by go_split_ands; exact TellM.b (by assumption))).mono ?_; rintro e w' ⟨rfl, hb⟩)
      | (go_at_call 16; refine (S2.out _ (by go_split_ands; exact TellM.b (by assumption))).mono ?_; rintro e w' ⟨rfl, hb⟩)
      | (go_at_call 17; refine (K1.out _ (by go_split_ands; exact TellM.b (by assumption))).mono ?_; rintro e w' ⟨rfl, hb⟩)
      | (go_at_call 18; refine (K2.out _ (by go_split_ands; exact TellM.b (by assumption))).mono ?_; rintro e w' ⟨rfl, hb⟩)
      | (go_at_call 19; refine (P1.out _ (by go_split_ands; exact TellM.b (by assumption))).mono ?_; rintro e w' ⟨rfl, hb⟩)
      | (go_at_call 20; refine (P2.out _ (by go_split_ands; exact TellM.b (by assumption))).mono ?_; rintro e w' ⟨rfl, hb⟩))
  all_goals
    go_wp2_with fail
    go_ret
    exact ⟨rfl, by go_split_ands; exact TellM.b (by assumption)⟩
end
theorem etell_walk (x y : En) (p q : Pd) (A1 D1 A2 D2 D3 D4 : Option Addr) (c1 e1 c2 e2 e3 e4 : Nat) (w : World) (hg : HasET w) (h1 : Reads w w.heap.size 2 A1 x.b.rs.length (cellsR x.b.rs)) (k1 : Reads w w.heap.size 3 D1 x.prod.seen.length (cellsN x.prod.seen)) (h2 : Reads w w.heap.size 2 A2 y.b.rs.length (cellsR y.b.rs)) (k2 : Reads w w.heap.size 3 D2 y.prod.seen.length (cellsN y.prod.seen)) (h3 : Reads w w.heap.size 3 D3 p.seen.length (cellsN p.seen)) (h4 : Reads w w.heap.size 3 D4 q.seen.length (cellsN q.seen)) :
    Calls Tryz.prog 3 #[(.agg #[.int .i8 x.kd, .int .i64 x.b.pid, .int .i64 x.b.ep, .int .i64 x.b.seq, .bool x.b.txn, .slice A1 x.b.rs.length c1, .bool x.yes, .int .i64 x.nx, .int .i64 x.off, .int .i64 x.row.1, .int .i64 x.row.2.1, .int .i64 x.row.2.2.1, .string x.row.2.2.2.1, .string x.row.2.2.2.2, .int .i64 x.prod.pid, .int .i64 x.prod.ep, .int .i64 x.prod.nx, .slice D1 x.prod.seen.length e1]), (.agg #[.int .i8 y.kd, .int .i64 y.b.pid, .int .i64 y.b.ep, .int .i64 y.b.seq, .bool y.b.txn, .slice A2 y.b.rs.length c2, .bool y.yes, .int .i64 y.nx, .int .i64 y.off, .int .i64 y.row.1, .int .i64 y.row.2.1, .int .i64 y.row.2.2.1, .string y.row.2.2.2.1, .string y.row.2.2.2.2, .int .i64 y.prod.pid, .int .i64 y.prod.ep, .int .i64 y.prod.nx, .slice D2 y.prod.seen.length e2]), (.agg #[.int .i64 p.pid, .int .i64 p.ep, .int .i64 p.nx, .slice D3 p.seen.length e3]), (.agg #[.int .i64 q.pid, .int .i64 q.ep, .int .i64 q.nx, .slice D4 q.seen.length e4])] w fun e w' => e = .returned (.bool true) ∧ Below w.heap.size w w' := by
  cases n1 : greatEn x
  · cases n2 : greatEn y
    · by_cases n3 : 40 < p.seen.length
      · exact etell_big2 x y p q A1 D1 A2 D2 D3 D4 c1 e1 c2 e2 e3 e4 w hg h1 h2 n1 (.inr ⟨n2, .inl n3⟩)
      · by_cases n4 : 40 < q.seen.length
        · exact etell_big2 x y p q A1 D1 A2 D2 D3 D4 c1 e1 c2 e2 e3 e4 w hg h1 h2 n1 (.inr ⟨n2, .inr ⟨n3, n4⟩⟩)
        · have l1 := not_greatEn n1
          have l2 := not_greatEn n2
          exact etell_ok x y p q A1 D1 A2 D2 D3 D4 c1 e1 c2 e2 e3 e4 w hg ⟨h1, k1, by omega, by omega⟩ ⟨h2, k2, by omega, by omega⟩ h3 h4 n1 n2 n3 n4
    · exact etell_big2 x y p q A1 D1 A2 D2 D3 D4 c1 e1 c2 e2 e3 e4 w hg h1 h2 n1 (.inl n2)
  · exact etell_big1 x y p q A1 D1 A2 D2 D3 D4 c1 e1 c2 e2 e3 e4 w hg h1 n1
end Go.Proofs.YtckdecodpjfcnaaGreatDoor
namespace Go.Proofs.YtckdecodpjfcnaaGreatDoor
open Go.Joins Go.ChangeShapes Go.WideShapes Go.RowKit Go.Deep

section
variable {H : Type} {enc : TypeId × Value → H} {P : Program} {w : World} {base : Nat} {spare : Nat → Bool} {held : Bool}
theorem open_agg5 {r : Reach} {b0 : Nat} {t : TypeId} {f0 f1 f2 f3 f4 : Field} {v : Value} {d : DataW H} {p : List MemPlace} (hs : P.underlying t = some (.struct #[f0, f1, f2, f3, f4])) (hone : oneCellFields P #[f0, f1, f2, f3, f4] = true) (hC : P.cellsOf t = 5)
    (hv : Value.okWide P w r b0 t v) (h : DataW.Trod enc P w base spare held t v d p) :
    ∃ (v0 v1 v2 v3 v4 : Value) (y0 y1 y2 y3 y4 : DataW H × List MemPlace) (n : Nat), v = .agg #[v0, v1, v2, v3, v4] ∧ d = .agg [y0.1, y1.1, y2.1, y3.1, y4.1] ∧ p = y0.2 ++ (y1.2 ++ (y2.2 ++ (y3.2 ++ (y4.2)))) ∧
      DataW.trod enc P w base spare held n f0.type [v0] = some y0 ∧ DataW.trod enc P w base spare held n f1.type [v1] = some y1 ∧ DataW.trod enc P w base spare held n f2.type [v2] = some y2 ∧ DataW.trod enc P w base spare held n f3.type [v3] = some y3 ∧ DataW.trod enc P w base spare held n f4.type [v4] = some y4 := by
  obtain ⟨cs, rfl, hsz⟩ := okWide_struct hs hv
  obtain ⟨l⟩ := cs
  match l, hsz.trans hC with
  | [c0, c1, c2, c3, c4], _ =>
    obtain ⟨fuel, hf⟩ := h
    obtain ⟨xs, n, _, hx, _, hlen, hg⟩ := DataW.trod_struct hs hf
    obtain ⟨o0, k0⟩ := hone_of hone 0 f0 rfl
    obtain ⟨o1, k1⟩ := hone_of hone 1 f1 rfl
    obtain ⟨o2, k2⟩ := hone_of hone 2 f2 rfl
    obtain ⟨o3, k3⟩ := hone_of hone 3 f3 rfl
    obtain ⟨o4, k4⟩ := hone_of hone 4 f4 rfl
    match xs, hlen with
    | [y0, y1, y2, y3, y4], _ =>
      simp only [Prod.mk.injEq] at hx
      exact ⟨c0, c1, c2, c3, c4, y0, y1, y2, y3, y4, n, rfl, by simpa using hx.1, by simpa using hx.2, by simpa [Value.cells, o0, k0] using hg 0 f0 rfl, by simpa [Value.cells, o1, k1] using hg 1 f1 rfl, by simpa [Value.cells, o2, k2] using hg 2 f2 rfl, by simpa [Value.cells, o3, k3] using hg 3 f3 rfl, by simpa [Value.cells, o4, k4] using hg 4 f4 rfl⟩

theorem open_agg3 {r : Reach} {b0 : Nat} {t : TypeId} {f0 f1 f2 : Field} {v : Value} {d : DataW H} {p : List MemPlace} (hs : P.underlying t = some (.struct #[f0, f1, f2])) (hone : oneCellFields P #[f0, f1, f2] = true) (hC : P.cellsOf t = 3)
    (hv : Value.okWide P w r b0 t v) (h : DataW.Trod enc P w base spare held t v d p) :
    ∃ (v0 v1 v2 : Value) (y0 y1 y2 : DataW H × List MemPlace) (n : Nat), v = .agg #[v0, v1, v2] ∧ d = .agg [y0.1, y1.1, y2.1] ∧ p = y0.2 ++ (y1.2 ++ (y2.2)) ∧
      DataW.trod enc P w base spare held n f0.type [v0] = some y0 ∧ DataW.trod enc P w base spare held n f1.type [v1] = some y1 ∧ DataW.trod enc P w base spare held n f2.type [v2] = some y2 := by
  obtain ⟨cs, rfl, hsz⟩ := okWide_struct hs hv
  obtain ⟨l⟩ := cs
  match l, hsz.trans hC with
  | [c0, c1, c2], _ =>
    obtain ⟨fuel, hf⟩ := h
    obtain ⟨xs, n, _, hx, _, hlen, hg⟩ := DataW.trod_struct hs hf
    obtain ⟨o0, k0⟩ := hone_of hone 0 f0 rfl
    obtain ⟨o1, k1⟩ := hone_of hone 1 f1 rfl
    obtain ⟨o2, k2⟩ := hone_of hone 2 f2 rfl
    match xs, hlen with
    | [y0, y1, y2], _ =>
      simp only [Prod.mk.injEq] at hx
      exact ⟨c0, c1, c2, y0, y1, y2, n, rfl, by simpa using hx.1, by simpa using hx.2, by simpa [Value.cells, o0, k0] using hg 0 f0 rfl, by simpa [Value.cells, o1, k1] using hg 1 f1 rfl, by simpa [Value.cells, o2, k2] using hg 2 f2 rfl⟩

theorem open_slice_fields {t e : TypeId} {fs : Array Field} {fuel : Nat} {cs : List Value} {x : DataW H × List MemPlace} (ht : P.underlying t = some (.slice e)) (he : P.underlying e = some (.struct fs))
    (hone : oneCellFields P fs = true) (hC : P.cellsOf e = fs.size) (h : DataW.trod enc P w base spare held fuel t cs = some x) :
    (cs = [.slice none 0 0] ∧ x = (.nil, [])) ∨
    ∃ (a : Addr) (len cap m : Nat) (D : Nat → DataW H) (Pl : Nat → List MemPlace), cs = [.slice (some a) len cap] ∧ base ≤ a.block ∧ len ≤ cap ∧ cap ≤ maxLen ∧ m = (if spare a.block then cap else len) ∧
      x = (.slice ((List.range len).map D) ((List.range (m - len)).map fun j => D (len + j)), MemPlace.row a (m * fs.size) ++ (List.range m).flatMap Pl) ∧
      ∀ i, i < m → ∃ (ys : List (DataW H × List MemPlace)) (n : Nat), D i = .agg (ys.map (·.1)) ∧ Pl i = ys.flatMap (·.2) ∧ ys.length = fs.size ∧
        ∀ (j : Nat) (f : Field), fs[j]? = some f → ∃ (v : Value) (y : DataW H × List MemPlace), w.cell? (a.add (i * fs.size + j)) = some v ∧ ys[j]? = some y ∧ DataW.trod enc P w base spare held n f.type [v] = some y := by
  rcases open_slice ht h with h0 | ⟨a, len, cap, m, n, D, Pl, hcs, hb, hl, hm, hmm, hx, hi⟩
  · exact .inl h0
  · refine .inr ⟨a, len, cap, m, D, Pl, hcs, hb, hl, hm, hmm, by rw [hC] at hx; exact hx, fun i him => ?_⟩
    obtain ⟨cs', hc, ht'⟩ := hi i him
    rw [hC] at hc
    obtain ⟨ys, n', hn', hy, hlen, hyl, hf⟩ := DataW.trod_struct he ht'
    obtain ⟨_, hcl, hat⟩ := World.cells?_some hc
    simp only [Prod.mk.injEq] at hy
    refine ⟨ys, n', hy.1, hy.2, hyl, fun j f hj => ?_⟩
    obtain ⟨ho, hk⟩ := hone_of hone j f hj
    have hjl : j < fs.size := (Array.getElem?_eq_some_iff.1 hj).1
    have hcell := hat j hjl
    have hv : cs'[j]? = some (cs'[j]'(by omega)) := List.getElem?_eq_getElem (by omega)
    have h1 := hf j f hj
    rw [ho, hk] at h1
    have hone' : (cs'.drop j).take 1 = [cs'[j]'(by omega)] := by
      rw [List.drop_eq_getElem_cons (by omega)]
      rfl
    rw [hone'] at h1
    have hys : ys[j]? = some (ys[j]'(by omega)) := List.getElem?_eq_getElem (by omega)
    refine ⟨_, _, ?_, hys, h1.trans hys⟩
    rw [← Go.Deep.add_add, hcell, hv]
end

section
variable {H : Type} {enc : TypeId × Value → H} {W : World}
theorem cell_block {a : Addr} {k : Nat} {v : Value} (h : W.cell? (a.add k) = some v) : a.block < W.heap.size := by
  have := block_lt_of_cell h
  rwa [block_of_add] at this
end
end Go.Proofs.YtckdecodpjfcnaaGreatDoor
namespace Go.Proofs.YtckdecodpjfcnaaGreatDoor
open Go.Joins Go.ChangeShapes Go.WideShapes Go.RowKit Go.Deep

theorem cellsR_get : ∀ (l : List Rec) (j : Nat) (u : Value), (cellsR l)[j]? = some u → ∃ i k p, j = i * 2 + k ∧ k < 2 ∧ l[i]? = some p ∧ u = (if k = 0 then .string p.1 else .string p.2) := by
  intro l j u hu
  have hj : j < l.length * 2 := by
    have := (List.getElem?_eq_some_iff.1 hu).1
    rwa [length_cellsR] at this
  have hi : j / 2 < l.length := by omega
  obtain ⟨p, hp⟩ : ∃ p, l[j / 2]? = some p := ⟨_, List.getElem?_eq_getElem hi⟩
  obtain ⟨h0, h1⟩ := cellsR_at l (j / 2) p hp
  refine ⟨j / 2, j % 2, p, by omega, by omega, hp, ?_⟩
  have hk : j % 2 = 0 ∨ j % 2 = 1 := by omega
  rcases hk with hk | hk
  · rw [show j = j / 2 * 2 by omega, h0] at hu
    rw [if_pos hk]
    exact (Option.some.inj hu).symm
  · rw [show j = j / 2 * 2 + 1 by omega, h1] at hu
    rw [if_neg (by omega)]
    exact (Option.some.inj hu).symm

section
variable {H : Type} {enc : TypeId × Value → H} {W : World}
theorem field_recs {fuel : Nat} {v : Value} {x : DataW H × List MemPlace} (h : DataW.trod enc Tryz.prog W 0 (fun _ => true) true fuel 23 [v] = some x) :
    ∃ (A : Option Addr) (c : Nat) (l : List Rec), v = .slice A l.length c ∧ l.length ≤ c ∧ c ≤ maxLen ∧ Reads W W.heap.size 2 A l.length (cellsR l) ∧ ∀ r ∈ l, r.1.size ≤ maxLen ∧ r.2.size ≤ maxLen := by
  rcases open_slice_fields Tryz.underlying23 Tryz.underlying60 (by kernel_rfl) (by kernel_rfl) h with ⟨hcs, _⟩ | ⟨a, len, cap, m, D, Pl, hcs, _, hl, hm, hmm, hx, hi⟩
  · simp at hcs
    subst hcs
    exact ⟨none, 0, [], rfl, Nat.le_refl _, Nat.zero_le _, Reads.none_, by simp⟩
  · simp at hcs
    subst hcs
    simp only [if_true] at hmm
    subst hmm
    have hp : ∀ i, ∃ p : Rec, (p.1.size ≤ maxLen ∧ p.2.size ≤ maxLen) ∧ (i < len → W.cell? (a.add (i * 2 + 0)) = some (.string p.1) ∧ W.cell? (a.add (i * 2 + 1)) = some (.string p.2)) := by
      intro i
      by_cases hlt : i < len
      · obtain ⟨ys, n, _, _, _, hf⟩ := hi i (by omega)
        obtain ⟨v0, y0, hc0, _, t0⟩ := hf 0 _ rfl
        obtain ⟨v1, y1, hc1, _, t1⟩ := hf 1 _ rfl
        obtain ⟨z0, e0, _, m0⟩ := DataW.trod_string Tryz.underlying9 t0
        obtain ⟨z1, e1, _, m1⟩ := DataW.trod_string Tryz.underlying9 t1
        simp at e0 e1
        subst e0; subst e1
        exact ⟨(z0, z1), ⟨m0, m1⟩, fun _ => ⟨hc0, hc1⟩⟩
      · exact ⟨(ByteArray.empty, ByteArray.empty), ⟨Nat.zero_le _, Nat.zero_le _⟩, fun h => absurd h hlt⟩
    refine ⟨some a, m, (List.range len).map fun i => Classical.choose (hp i), by simp, by simpa using hl, hm, ⟨by rw [length_cellsR], fun hn => ⟨a, rfl, ?_, fun j u hu => ?_⟩⟩, fun r hr => ?_⟩
    · simp at hn
      exact cell_block ((Classical.choose_spec (hp 0)).2 hn).1
    · obtain ⟨i, k, p, rfl, hk, hpi, rfl⟩ := cellsR_get _ j u hu
      rw [List.getElem?_map, Option.map_eq_some_iff] at hpi
      obtain ⟨i', hi', rfl⟩ := hpi
      have hlt : i < len := by
        have := (List.getElem?_eq_some_iff.1 hi').1
        simpa using this
      rw [List.getElem?_range hlt] at hi'
      obtain rfl : i = i' := by simpa using hi'
      obtain ⟨q0, q1⟩ := (Classical.choose_spec (hp i)).2 hlt
      have hk3 : k = 0 ∨ k = 1 := by omega
      rcases hk3 with rfl | rfl
      · exact q0
      · exact q1
    · obtain ⟨i, _, rfl⟩ := List.mem_map.1 hr
      exact (Classical.choose_spec (hp i)).1

set_option maxRecDepth 100000 in
theorem open_bt {r : Reach} {base : Nat} {v : Value} {d : DataW H} {p : List MemPlace} (hv : Value.okWide Tryz.prog W r base 25 v) (h : DataW.Trod enc Tryz.prog W 0 (fun _ => true) true 25 v d p) :
    ∃ (b : Bat) (A1 : Option Addr) (c1 : Nat), v = (.agg #[.int .i64 b.pid, .int .i64 b.ep, .int .i64 b.seq, .bool b.txn, .slice A1 b.rs.length c1]) ∧ BtRaw W b A1 ∧ b.rs.length ≤ c1 ∧ (-9223372036854775808 ≤ b.pid ∧ b.pid ≤ 9223372036854775807) ∧ (-9223372036854775808 ≤ b.ep ∧ b.ep ≤ 9223372036854775807) ∧ (-9223372036854775808 ≤ b.seq ∧ b.seq ≤ 9223372036854775807) := by
  obtain ⟨v0, v1, v2, v3, v4, y0, y1, y2, y3, y4, n, rfl, _, _, t0, t1, t2, t3, t4⟩ := open_agg5 Tryz.underlying25 (by kernel_rfl) (by kernel_rfl) hv h
  obtain ⟨z0, e0, _, w0⟩ := DataW.trod_int Tryz.underlying3 t0
  obtain ⟨z1, e1, _, w1⟩ := DataW.trod_int Tryz.underlying3 t1
  obtain ⟨z2, e2, _, w2⟩ := DataW.trod_int Tryz.underlying3 t2
  obtain ⟨z3, e3, _⟩ := DataW.trod_bool Tryz.underlying4 t3
  obtain ⟨A1, c1, l1, rfl, k1, hm1, r1, s1⟩ := field_recs t4
  simp at e0 e1 e2 e3
  subst e0; subst e1; subst e2; subst e3
  simp only [Lit.wf, Bool.and_eq_true, decide_eq_true_eq] at w0 w1 w2
  unfold maxLen at hm1 s1
  exact ⟨⟨z0, z1, z2, z3, l1⟩, A1, c1, rfl, ⟨r1, by show l1.length ≤ _; omega, s1⟩, k1, w0, w1, w2⟩
end
end Go.Proofs.YtckdecodpjfcnaaGreatDoor
namespace Go.Proofs.YtckdecodpjfcnaaGreatDoor
open Go.Joins Go.ChangeShapes Go.WideShapes Go.RowKit Go.Deep

def i64In (x : Int) : Prop := -9223372036854775808 ≤ x ∧ x ≤ 9223372036854775807
/-- What is known of a request that was handed in. -/
def RqRaw (w : World) (q : Rq) (A : Option Addr) : Prop :=
  BtRaw w q.b A ∧ (-128 ≤ q.kd ∧ q.kd ≤ 127) ∧ ∀ v ∈ [q.tid, q.tm, q.pid, q.ep, q.part, q.grp, q.off, q.most, q.b.pid, q.b.ep, q.b.seq], i64In v

section
variable {H : Type} {enc : TypeId × Value → H} {W : World}
set_option maxRecDepth 100000 in
theorem trod_bt {fuel : Nat} {cs : List Value} {x : DataW H × List MemPlace} (h : DataW.trod enc Tryz.prog W 0 (fun _ => true) true fuel 25 cs = some x) :
    ∃ (b : Bat) (A1 : Option Addr) (c1 : Nat), cs = [.int .i64 b.pid, .int .i64 b.ep, .int .i64 b.seq, .bool b.txn, .slice A1 b.rs.length c1] ∧ BtRaw W b A1 ∧ i64In b.pid ∧ i64In b.ep ∧ i64In b.seq := by
  obtain ⟨xs, n, _, _, hl, hlen, hg⟩ := DataW.trod_struct Tryz.underlying25 h
  have hC : Tryz.prog.cellsOf 25 = 5 := by kernel_rfl
  have ki : Tryz.prog.cellsOf 3 = 1 := by kernel_rfl
  have kb : Tryz.prog.cellsOf 4 = 1 := by kernel_rfl
  have kr : Tryz.prog.cellsOf 23 = 1 := by kernel_rfl
  rw [hC] at hl
  match cs, hl with
  | [c0, c1, c2, c3, c4], _ =>
    match xs, hlen with
    | [y0, y1, y2, y3, y4], _ =>
      have t0 := hg 0 _ rfl
      have t1 := hg 1 _ rfl
      have t2 := hg 2 _ rfl
      have t3 := hg 3 _ rfl
      have t4 := hg 4 _ rfl
      simp [ki] at t0 t1 t2
      simp [kb] at t3
      simp [kr] at t4
      obtain ⟨z0, e0, _, w0⟩ := DataW.trod_int Tryz.underlying3 t0
      obtain ⟨z1, e1, _, w1⟩ := DataW.trod_int Tryz.underlying3 t1
      obtain ⟨z2, e2, _, w2⟩ := DataW.trod_int Tryz.underlying3 t2
      obtain ⟨z3, e3, _⟩ := DataW.trod_bool Tryz.underlying4 t3
      obtain ⟨A1, cc, l1, rfl, k1, hm1, r1, s1⟩ := field_recs t4
      simp at e0 e1 e2 e3
      subst e0; subst e1; subst e2; subst e3
      simp only [Lit.wf, Bool.and_eq_true, decide_eq_true_eq] at w0 w1 w2
      unfold maxLen at hm1 s1
      exact ⟨⟨z0, z1, z2, z3, l1⟩, A1, cc, rfl, ⟨r1, by show l1.length ≤ _; omega, s1⟩, w0, w1, w2⟩
end
end Go.Proofs.YtckdecodpjfcnaaGreatDoor
namespace Go.Proofs.YtckdecodpjfcnaaGreatDoor
open Go.Joins Go.ChangeShapes Go.WideShapes Go.RowKit Go.Deep

theorem cellsN_get : ∀ (l : List Sn) (j : Nat) (u : Value), (cellsN l)[j]? = some u → ∃ i k p, j = i * 3 + k ∧ k < 3 ∧ l[i]? = some p ∧ u = (if k = 0 then .int .i64 p.1 else if k = 1 then .int .i64 p.2.1 else .int .i64 p.2.2) := by
  intro l j u hu
  have hj : j < l.length * 3 := by
    have := (List.getElem?_eq_some_iff.1 hu).1
    rwa [length_cellsN] at this
  have hi : j / 3 < l.length := by omega
  obtain ⟨p, hp⟩ : ∃ p, l[j / 3]? = some p := ⟨_, List.getElem?_eq_getElem hi⟩
  obtain ⟨h0, h1, h2⟩ := cellsN_at l (j / 3) p hp
  refine ⟨j / 3, j % 3, p, by omega, by omega, hp, ?_⟩
  have hk : j % 3 = 0 ∨ j % 3 = 1 ∨ j % 3 = 2 := by omega
  rcases hk with hk | hk | hk
  · rw [show j = j / 3 * 3 by omega, h0] at hu
    rw [if_pos hk]
    exact (Option.some.inj hu).symm
  · rw [show j = j / 3 * 3 + 1 by omega, h1] at hu
    rw [if_neg (by omega), if_pos hk]
    exact (Option.some.inj hu).symm
  · rw [show j = j / 3 * 3 + 2 by omega, h2] at hu
    rw [if_neg (by omega), if_neg (by omega)]
    exact (Option.some.inj hu).symm

section
variable {H : Type} {enc : TypeId × Value → H} {W : World}
theorem field_seen {fuel : Nat} {v : Value} {x : DataW H × List MemPlace} (h : DataW.trod enc Tryz.prog W 0 (fun _ => true) true fuel 28 [v] = some x) :
    ∃ (A : Option Addr) (c : Nat) (l : List Sn), v = .slice A l.length c ∧ l.length ≤ c ∧ Reads W W.heap.size 3 A l.length (cellsN l) := by
  rcases open_slice_fields Tryz.underlying28 Tryz.underlying73 (by kernel_rfl) (by kernel_rfl) h with ⟨hcs, _⟩ | ⟨a, len, cap, m, D, Pl, hcs, _, hl, hm, hmm, hx, hi⟩
  · simp at hcs
    subst hcs
    exact ⟨none, 0, [], rfl, Nat.le_refl _, Reads.none_⟩
  · simp at hcs
    subst hcs
    simp only [if_true] at hmm
    subst hmm
    have hp : ∀ i, ∃ p : Sn, (i < len → W.cell? (a.add (i * 3 + 0)) = some (.int .i64 p.1) ∧ W.cell? (a.add (i * 3 + 1)) = some (.int .i64 p.2.1) ∧ W.cell? (a.add (i * 3 + 2)) = some (.int .i64 p.2.2)) := by
      intro i
      by_cases hlt : i < len
      · obtain ⟨ys, n, _, _, _, hf⟩ := hi i (by omega)
        obtain ⟨v0, y0, hc0, _, t0⟩ := hf 0 _ rfl
        obtain ⟨v1, y1, hc1, _, t1⟩ := hf 1 _ rfl
        obtain ⟨v2, y2, hc2, _, t2⟩ := hf 2 _ rfl
        obtain ⟨z0, e0, _, _⟩ := DataW.trod_int Tryz.underlying3 t0
        obtain ⟨z1, e1, _, _⟩ := DataW.trod_int Tryz.underlying3 t1
        obtain ⟨z2, e2, _, _⟩ := DataW.trod_int Tryz.underlying3 t2
        simp at e0 e1 e2
        subst e0; subst e1; subst e2
        exact ⟨(z0, z1, z2), fun _ => ⟨hc0, hc1, hc2⟩⟩
      · exact ⟨(0, 0, 0), fun h => absurd h hlt⟩
    refine ⟨some a, m, (List.range len).map fun i => Classical.choose (hp i), by simp, by simpa using hl, ⟨by rw [length_cellsN], fun hn => ⟨a, rfl, ?_, fun j u hu => ?_⟩⟩⟩
    · simp at hn
      exact cell_block ((Classical.choose_spec (hp 0)) hn).1
    · obtain ⟨i, k, p, rfl, hk, hpi, rfl⟩ := cellsN_get _ j u hu
      rw [List.getElem?_map, Option.map_eq_some_iff] at hpi
      obtain ⟨i', hi', rfl⟩ := hpi
      have hlt : i < len := by
        have := (List.getElem?_eq_some_iff.1 hi').1
        simpa using this
      rw [List.getElem?_range hlt] at hi'
      obtain rfl : i = i' := by simpa using hi'
      obtain ⟨q0, q1, q2⟩ := (Classical.choose_spec (hp i)) hlt
      have hk3 : k = 0 ∨ k = 1 ∨ k = 2 := by omega
      rcases hk3 with rfl | rfl | rfl
      · exact q0
      · exact q1
      · exact q2
set_option maxRecDepth 100000 in
theorem trod_row {fuel : Nat} {cs : List Value} {x : DataW H × List MemPlace} (h : DataW.trod enc Tryz.prog W 0 (fun _ => true) true fuel 27 cs = some x) :
    ∃ r : Rw, cs = [.int .i64 r.1, .int .i64 r.2.1, .int .i64 r.2.2.1, .string r.2.2.2.1, .string r.2.2.2.2] := by
  obtain ⟨xs, n, _, _, hl, hlen, hg⟩ := DataW.trod_struct Tryz.underlying27 h
  have hC : Tryz.prog.cellsOf 27 = 5 := by kernel_rfl
  have ki : Tryz.prog.cellsOf 3 = 1 := by kernel_rfl
  have ks : Tryz.prog.cellsOf 9 = 1 := by kernel_rfl
  rw [hC] at hl
  match cs, hl with
  | [c0, c1, c2, c3, c4], _ =>
    match xs, hlen with
    | [y0, y1, y2, y3, y4], _ =>
      have t0 := hg 0 _ rfl
      have t1 := hg 1 _ rfl
      have t2 := hg 2 _ rfl
      have t3 := hg 3 _ rfl
      have t4 := hg 4 _ rfl
      simp [ki] at t0 t1 t2
      simp [ks] at t3 t4
      obtain ⟨z0, e0, _, _⟩ := DataW.trod_int Tryz.underlying3 t0
      obtain ⟨z1, e1, _, _⟩ := DataW.trod_int Tryz.underlying3 t1
      obtain ⟨z2, e2, _, _⟩ := DataW.trod_int Tryz.underlying3 t2
      obtain ⟨z3, e3, _, _⟩ := DataW.trod_string Tryz.underlying9 t3
      obtain ⟨z4, e4, _, _⟩ := DataW.trod_string Tryz.underlying9 t4
      simp at e0 e1 e2 e3 e4
      subst e0; subst e1; subst e2; subst e3; subst e4
      exact ⟨(z0, z1, z2, z3, z4), rfl⟩
set_option maxRecDepth 100000 in
theorem trod_pd {fuel : Nat} {cs : List Value} {x : DataW H × List MemPlace} (h : DataW.trod enc Tryz.prog W 0 (fun _ => true) true fuel 30 cs = some x) :
    ∃ (p : Pd) (D1 : Option Addr) (e1 : Nat), cs = #[.int .i64 p.pid, .int .i64 p.ep, .int .i64 p.nx, .slice D1 p.seen.length e1].toList ∧ Reads W W.heap.size 3 D1 p.seen.length (cellsN p.seen) ∧ p.seen.length ≤ e1 := by
  obtain ⟨xs, n, _, _, hl, hlen, hg⟩ := DataW.trod_struct Tryz.underlying30 h
  have hC : Tryz.prog.cellsOf 30 = 4 := by kernel_rfl
  have ki : Tryz.prog.cellsOf 3 = 1 := by kernel_rfl
  have ks : Tryz.prog.cellsOf 28 = 1 := by kernel_rfl
  rw [hC] at hl
  match cs, hl with
  | [c0, c1, c2, c3], _ =>
    match xs, hlen with
    | [y0, y1, y2, y3], _ =>
      have t0 := hg 0 _ rfl
      have t1 := hg 1 _ rfl
      have t2 := hg 2 _ rfl
      have t3 := hg 3 _ rfl
      simp [ki] at t0 t1 t2
      simp [ks] at t3
      obtain ⟨z0, e0, _, _⟩ := DataW.trod_int Tryz.underlying3 t0
      obtain ⟨z1, e1, _, _⟩ := DataW.trod_int Tryz.underlying3 t1
      obtain ⟨z2, e2, _, _⟩ := DataW.trod_int Tryz.underlying3 t2
      obtain ⟨D1, cc, l, rfl, hle, hr⟩ := field_seen t3
      simp at e0 e1 e2
      subst e0; subst e1; subst e2
      exact ⟨⟨z0, z1, z2, l⟩, D1, cc, rfl, hr, hle⟩
set_option maxRecDepth 100000 in
theorem trod_en {fuel : Nat} {cs : List Value} {x : DataW H × List MemPlace} (h : DataW.trod enc Tryz.prog W 0 (fun _ => true) true fuel 32 cs = some x) :
    ∃ (q : En) (A1 D1 : Option Addr) (c1 e1 : Nat), cs = #[.int .i8 q.kd, .int .i64 q.b.pid, .int .i64 q.b.ep, .int .i64 q.b.seq, .bool q.b.txn, .slice A1 q.b.rs.length c1, .bool q.yes, .int .i64 q.nx, .int .i64 q.off, .int .i64 q.row.1, .int .i64 q.row.2.1, .int .i64 q.row.2.2.1, .string q.row.2.2.2.1, .string q.row.2.2.2.2, .int .i64 q.prod.pid, .int .i64 q.prod.ep, .int .i64 q.prod.nx, .slice D1 q.prod.seen.length e1].toList ∧ Reads W W.heap.size 2 A1 q.b.rs.length (cellsR q.b.rs) ∧ Reads W W.heap.size 3 D1 q.prod.seen.length (cellsN q.prod.seen) := by
  obtain ⟨xs, n, _, _, hl, hlen, hg⟩ := DataW.trod_struct Tryz.underlying32 h
  have hC : Tryz.prog.cellsOf 32 = 18 := by kernel_rfl
  have k8 : Tryz.prog.cellsOf 22 = 1 := by kernel_rfl
  have ki : Tryz.prog.cellsOf 3 = 1 := by kernel_rfl
  have kb : Tryz.prog.cellsOf 4 = 1 := by kernel_rfl
  have kB : Tryz.prog.cellsOf 25 = 5 := by kernel_rfl
  have kR : Tryz.prog.cellsOf 27 = 5 := by kernel_rfl
  have kP : Tryz.prog.cellsOf 30 = 4 := by kernel_rfl
  rw [hC] at hl
  match cs, hl with
  | [c0, c1, c2, c3, c4, c5, c6, c7, c8, c9, c10, c11, c12, c13, c14, c15, c16, c17], _ =>
    match xs, hlen with
    | [y0, y1, y2, y3, y4, y5, y6], _ =>
      have t0 := hg 0 _ rfl
      have t1 := hg 1 _ rfl
      have t2 := hg 2 _ rfl
      have t3 := hg 3 _ rfl
      have t4 := hg 4 _ rfl
      have t5 := hg 5 _ rfl
      have t6 := hg 6 _ rfl
      clear hg
      simp [k8] at t0
      simp [kB] at t1
      simp [kb] at t2
      simp [ki] at t3 t4
      simp [kR] at t5
      simp [kP] at t6
      obtain ⟨z0, e0, _, _⟩ := DataW.trod_int Tryz.underlying22 t0
      obtain ⟨b, A1, cc, eb, hb, _, _, _⟩ := trod_bt t1
      obtain ⟨z2, e2, _⟩ := DataW.trod_bool Tryz.underlying4 t2
      obtain ⟨z3, e3, _, _⟩ := DataW.trod_int Tryz.underlying3 t3
      obtain ⟨z4, e4, _, _⟩ := DataW.trod_int Tryz.underlying3 t4
      obtain ⟨r, er⟩ := trod_row t5
      obtain ⟨p, D1, ee, ep, hp, _⟩ := trod_pd t6
      simp at e0 e2 e3 e4 eb er ep
      obtain ⟨rfl, rfl, rfl, rfl, rfl⟩ := eb
      obtain ⟨rfl, rfl, rfl, rfl, rfl⟩ := er
      obtain ⟨rfl, rfl, rfl, rfl⟩ := ep
      subst e0; subst e2; subst e3; subst e4
      exact ⟨⟨z0, b, z2, z3, z4, r, p⟩, A1, D1, cc, ee, rfl, hb.1, hp⟩
set_option maxRecDepth 100000 in
theorem open_en {r : Reach} {base : Nat} {v : Value} {d : DataW H} {p : List MemPlace} (hv : Value.okWide Tryz.prog W r base 32 v) (h : DataW.Trod enc Tryz.prog W 0 (fun _ => true) true 32 v d p) :
    ∃ (q : En) (A1 D1 : Option Addr) (c1 e1 : Nat), v = (.agg #[.int .i8 q.kd, .int .i64 q.b.pid, .int .i64 q.b.ep, .int .i64 q.b.seq, .bool q.b.txn, .slice A1 q.b.rs.length c1, .bool q.yes, .int .i64 q.nx, .int .i64 q.off, .int .i64 q.row.1, .int .i64 q.row.2.1, .int .i64 q.row.2.2.1, .string q.row.2.2.2.1, .string q.row.2.2.2.2, .int .i64 q.prod.pid, .int .i64 q.prod.ep, .int .i64 q.prod.nx, .slice D1 q.prod.seen.length e1]) ∧ Reads W W.heap.size 2 A1 q.b.rs.length (cellsR q.b.rs) ∧ Reads W W.heap.size 3 D1 q.prod.seen.length (cellsN q.prod.seen) := by
  obtain ⟨cs, rfl, _⟩ := okWide_struct Tryz.underlying32 hv
  obtain ⟨fuel, hf⟩ := h
  obtain ⟨q, A1, D1, c1, e1, e, h1, h2⟩ := trod_en hf
  have e2 : cs.toList = #[.int .i8 q.kd, .int .i64 q.b.pid, .int .i64 q.b.ep, .int .i64 q.b.seq, .bool q.b.txn, .slice A1 q.b.rs.length c1, .bool q.yes, .int .i64 q.nx, .int .i64 q.off, .int .i64 q.row.1, .int .i64 q.row.2.1, .int .i64 q.row.2.2.1, .string q.row.2.2.2.1, .string q.row.2.2.2.2, .int .i64 q.prod.pid, .int .i64 q.prod.ep, .int .i64 q.prod.nx, .slice D1 q.prod.seen.length e1].toList := e
  exact ⟨q, A1, D1, c1, e1, congrArg Value.agg (Array.toList_inj.1 e2), h1, h2⟩
set_option maxRecDepth 100000 in
theorem open_pd {r : Reach} {base : Nat} {v : Value} {d : DataW H} {p : List MemPlace} (hv : Value.okWide Tryz.prog W r base 30 v) (h : DataW.Trod enc Tryz.prog W 0 (fun _ => true) true 30 v d p) :
    ∃ (q : Pd) (D1 : Option Addr) (e1 : Nat), v = (.agg #[.int .i64 q.pid, .int .i64 q.ep, .int .i64 q.nx, .slice D1 q.seen.length e1]) ∧ Reads W W.heap.size 3 D1 q.seen.length (cellsN q.seen) ∧ q.seen.length ≤ e1 := by
  obtain ⟨cs, rfl, _⟩ := okWide_struct Tryz.underlying30 hv
  obtain ⟨fuel, hf⟩ := h
  obtain ⟨q, D1, e1, e, h1, h2⟩ := trod_pd hf
  have e2 : cs.toList = #[.int .i64 q.pid, .int .i64 q.ep, .int .i64 q.nx, .slice D1 q.seen.length e1].toList := e
  exact ⟨q, D1, e1, congrArg Value.agg (Array.toList_inj.1 e2), h1, h2⟩
end
end Go.Proofs.YtckdecodpjfcnaaGreatDoor
namespace Go.Proofs.YtckdecodpjfcnaaGreatDoor.entryTells
open Go.ChangeShapes Go.WideShapes Go.ChangeAt Go.RowKit
open Go.ChangeMaps (open_string shut_string)
set_option linter.unusedVariables false

theorem laid_met (os : Os) : laidMetH Tryz.prog Rows.entryTellsRow.laid ((laidWorld os).forCall (fun _ _ => 0) ⟨#[], #[.agg #[.int .i8 0, .int .i64 0, .int .i64 0, .int .i64 0, .bool false, .slice none 0 0, .bool false, .int .i64 0, .int .i64 0, .int .i64 0, .int .i64 0, .int .i64 0, .string ByteArray.empty, .string ByteArray.empty, .int .i64 0, .int .i64 0, .int .i64 0, .slice none 0 0], .agg #[.int .i8 0, .int .i64 0, .int .i64 0, .int .i64 0, .bool false, .slice none 0 0, .bool false, .int .i64 0, .int .i64 0, .int .i64 0, .int .i64 0, .int .i64 0, .string ByteArray.empty, .string ByteArray.empty, .int .i64 0, .int .i64 0, .int .i64 0, .slice none 0 0], .agg #[.int .i64 0, .int .i64 0, .int .i64 0, .slice none 0 0], .agg #[.int .i64 0, .int .i64 0, .int .i64 0, .slice none 0 0]], []⟩).memory :=
  laidMetH_of_parts (laidMet_nil _ _) (by kernel_rfl)
theorem reads (os : Os) {H : Type} (enc : TypeId × Value → H) : ∃ places, DataW.whole enc Tryz.prog ((laidWorld os).forCall (fun _ _ => 0) ⟨#[], #[.agg #[.int .i8 0, .int .i64 0, .int .i64 0, .int .i64 0, .bool false, .slice none 0 0, .bool false, .int .i64 0, .int .i64 0, .int .i64 0, .int .i64 0, .int .i64 0, .string ByteArray.empty, .string ByteArray.empty, .int .i64 0, .int .i64 0, .int .i64 0, .slice none 0 0], .agg #[.int .i8 0, .int .i64 0, .int .i64 0, .int .i64 0, .bool false, .slice none 0 0, .bool false, .int .i64 0, .int .i64 0, .int .i64 0, .int .i64 0, .int .i64 0, .string ByteArray.empty, .string ByteArray.empty, .int .i64 0, .int .i64 0, .int .i64 0, .slice none 0 0], .agg #[.int .i64 0, .int .i64 0, .int .i64 0, .slice none 0 0], .agg #[.int .i64 0, .int .i64 0, .int .i64 0, .slice none 0 0]], []⟩).memory Tryz.f3.params.toList Rows.entryTellsSpec.vars false (#[.agg #[.int .i8 0, .int .i64 0, .int .i64 0, .int .i64 0, .bool false, .slice none 0 0, .bool false, .int .i64 0, .int .i64 0, .int .i64 0, .int .i64 0, .int .i64 0, .string ByteArray.empty, .string ByteArray.empty, .int .i64 0, .int .i64 0, .int .i64 0, .slice none 0 0], .agg #[.int .i8 0, .int .i64 0, .int .i64 0, .int .i64 0, .bool false, .slice none 0 0, .bool false, .int .i64 0, .int .i64 0, .int .i64 0, .int .i64 0, .int .i64 0, .string ByteArray.empty, .string ByteArray.empty, .int .i64 0, .int .i64 0, .int .i64 0, .slice none 0 0], .agg #[.int .i64 0, .int .i64 0, .int .i64 0, .slice none 0 0], .agg #[.int .i64 0, .int .i64 0, .int .i64 0, .slice none 0 0]] : Array Value).toList 8 = some ([.agg [.lit (.int .i8 0), .agg [.lit (.int .i64 0), .lit (.int .i64 0), .lit (.int .i64 0), .lit (.bool false), .nil], .lit (.bool false), .lit (.int .i64 0), .lit (.int .i64 0), .agg [.lit (.int .i64 0), .lit (.int .i64 0), .lit (.int .i64 0), .lit (.string []), .lit (.string [])], .agg [.lit (.int .i64 0), .lit (.int .i64 0), .lit (.int .i64 0), .nil]], .agg [.lit (.int .i8 0), .agg [.lit (.int .i64 0), .lit (.int .i64 0), .lit (.int .i64 0), .lit (.bool false), .nil], .lit (.bool false), .lit (.int .i64 0), .lit (.int .i64 0), .agg [.lit (.int .i64 0), .lit (.int .i64 0), .lit (.int .i64 0), .lit (.string []), .lit (.string [])], .agg [.lit (.int .i64 0), .lit (.int .i64 0), .lit (.int .i64 0), .nil]], .agg [.lit (.int .i64 0), .lit (.int .i64 0), .lit (.int .i64 0), .nil], .agg [.lit (.int .i64 0), .lit (.int .i64 0), .lit (.int .i64 0), .nil]], [], places) :=
  ⟨[], by kernel_rfl⟩

set_option maxRecDepth 100000 in
theorem lifted (os : Os) (started : os.Started) (H : Type) (enc : TypeId × Value → H) (F : Stop.Interp) :
    ReturnsInHanded {} Tryz.checked os 3 .any ((OpenSpec.ofChange Rows.entryTellsSpec).preRow enc Tryz.prog Tryz.f3 Rows.entryTellsRow.domain false Rows.entryTellsRow.laid) (((OpenSpec.ofChange Rows.entryTellsSpec).at F).post enc Tryz.prog Tryz.f3 false true false false) := by
  obtain ⟨places, hx⟩ := reads os enc
  refine returnsInHanded_of_row (C := Tryz.checked) (s := OpenSpec.ofChange Rows.entryTellsSpec) own started (by kernel_rfl) Tryz.func3
    (witness_row_at (enc := enc) (C := Tryz.checked) false (laidWorld os) #[.agg #[.int .i8 0, .int .i64 0, .int .i64 0, .int .i64 0, .bool false, .slice none 0 0, .bool false, .int .i64 0, .int .i64 0, .int .i64 0, .int .i64 0, .int .i64 0, .string ByteArray.empty, .string ByteArray.empty, .int .i64 0, .int .i64 0, .int .i64 0, .slice none 0 0], .agg #[.int .i8 0, .int .i64 0, .int .i64 0, .int .i64 0, .bool false, .slice none 0 0, .bool false, .int .i64 0, .int .i64 0, .int .i64 0, .int .i64 0, .int .i64 0, .string ByteArray.empty, .string ByteArray.empty, .int .i64 0, .int .i64 0, .int .i64 0, .slice none 0 0], .agg #[.int .i64 0, .int .i64 0, .int .i64 0, .slice none 0 0], .agg #[.int .i64 0, .int .i64 0, .int .i64 0, .slice none 0 0]] rfl (by kernel_rfl) (by kernel_rfl) (by kernel_rfl)
      (OpenSpec.preRow_of_cond 8 hx (by kernel_rfl) (fun k hk => by cases hk) (by kernel_rfl) (laid_met os))) ?_
  intro W base args ds gs before hval0 hW _ _ hsz0 hL _ _
  have hg : HasET W := hasErr_of_laid hL
  have hval : ∀ (j : Nat) t v, Tryz.f3.params[j]? = some t → args[j]? = some v → Value.okWide Tryz.prog W .any base t v := hval0
  have hsz : (DataW.weightsEach Tryz.prog (Tryz.f3.params.toList ++ Rows.entryTellsSpec.plain.varTypes Tryz.prog) (ds ++ gs)).all (· ≤ reachBytes) = true := hsz0
  have hW' := hW
  obtain ⟨p, q, hA0, hV, rfl, hfz, hnd⟩ := hW
  have hA : DataW.TrodAll enc Tryz.prog W 0 (fun _ => true) true Tryz.f3.params.toList args.toList ds p := hA0
  rw [Tryz.params3] at hA hval hsz
  obtain ⟨v0, vs0, d0, ds0, p0, q0, hargs, rfl, rfl, h0, r0⟩ := trodAll_cons hA
  obtain ⟨v1, vs1, d1, ds1, p1, q1, rfl, rfl, rfl, h1, r1⟩ := trodAll_cons r0
  obtain ⟨v2, vs2, d2, ds2, p2, q2, rfl, rfl, rfl, h2, r2⟩ := trodAll_cons r1
  obtain ⟨v3, vs3, d3, ds3, p3, q3, rfl, rfl, rfl, h3, r3⟩ := trodAll_cons r2
  obtain ⟨rfl, rfl, rfl⟩ := trodAll_nil r3
  obtain rfl : args = #[v0, v1, v2, v3] := by cases args; simp_all
  obtain ⟨rfl, rfl⟩ := trodVars_none hV
  have k0 := h0
  have lt0 : ∀ x ∈ p0, x.block < W.heap.size := by obtain ⟨m, hm⟩ := k0; exact DataW.trod_lt m _ _ _ hm
  obtain ⟨en0, A0, D0, c0, g0, rfl, er0, es0⟩ := open_en (hval 0 32 v0 rfl rfl) h0
  have k1 := h1
  have lt1 : ∀ x ∈ p1, x.block < W.heap.size := by obtain ⟨m, hm⟩ := k1; exact DataW.trod_lt m _ _ _ hm
  obtain ⟨en1, A1, D1, c1, g1, rfl, er1, es1⟩ := open_en (hval 1 32 v1 rfl rfl) h1
  have k2 := h2
  have lt2 : ∀ x ∈ p2, x.block < W.heap.size := by obtain ⟨m, hm⟩ := k2; exact DataW.trod_lt m _ _ _ hm
  obtain ⟨pd2, D2, g2, rfl, es2, el2⟩ := open_pd (hval 2 30 v2 rfl rfl) h2
  have k3 := h3
  have lt3 : ∀ x ∈ p3, x.block < W.heap.size := by obtain ⟨m, hm⟩ := k3; exact DataW.trod_lt m _ _ _ hm
  obtain ⟨pd3, D3, g3, rfl, es3, el3⟩ := open_pd (hval 3 30 v3 rfl rfl) h3
  clear hA0 hval0 hsz0
  refine (etell_walk en0 en1 pd2 pd3 A0 D0 A1 D1 D2 D3 c0 g0 c1 g1 g2 g3 W hg er0 es0 er1 es1 es2 es3).mono fun e W' ⟨he, bel⟩ => ?_
  subst he
  exact ⟨_, rfl, _, _, _, [], _, [], hW', trodAll_mk1 (shut_bool Tryz.underlying4 _), (trodAll_cons_mk (Below.trod laidOut (by kernel_rfl) (of_decide_eq_true (by kernel_rfl)) k0 bel lt0) (trodAll_cons_mk (Below.trod laidOut (by kernel_rfl) (of_decide_eq_true (by kernel_rfl)) k1 bel lt1) (trodAll_cons_mk (Below.trod laidOut (by kernel_rfl) (of_decide_eq_true (by kernel_rfl)) k2 bel lt2) (trodAll_cons_mk (Below.trod laidOut (by kernel_rfl) (of_decide_eq_true (by kernel_rfl)) k3 bel lt3) trodAll_mk0)))), rfl, bel.frame _, fun h => by cases h⟩

theorem said : Rows.EntryTellsSaid :=
  OpenClaim.holds_of_cond 3 Tryz.f3 rfl rfl rfl rfl rfl rfl rfl ⟨rfl, rfl, rfl, rfl, rfl⟩ rfl rfl rfl rfl rfl (by kernel_rfl) Tryz.func3 (by kernel_rfl)
    (of_decide_eq_true (by kernel_rfl)) (by unfold Func.isWrapper; first | (rw [if_pos (by decide +kernel)]; kernel_rfl) | (rw [if_neg (by decide +kernel)]; exact ⟨rfl, rfl⟩))
    (fun os started H enc _ F => by rw [OpenClaim.pre_eq_preRow]; exact lifted os started H enc F)

theorem plain (f : FuncId) (fn : Func) (hf : Tryz.pinned.checked.prog.funcNamed "roving/rovinglaw07.EntryTells" = some f) (hfn : Tryz.pinned.checked.prog.funcs[f]? = some fn) :
    true = Tryz.pinned.checked.prog.looks [] ∧ ∀ (j : Nat) t, fn.params[j]? = some t → Tryz.pinned.checked.prog.wantsStandIn t = false := by
  obtain rfl : f = 3 := Option.some.inj ((show Tryz.prog.funcNamed "roving/rovinglaw07.EntryTells" = some 3 by kernel_rfl).symm.trans hf) |>.symm
  obtain rfl : fn = Tryz.f3 := (Option.some.inj (Tryz.func3.symm.trans hfn)).symm
  refine ⟨by kernel_rfl, fun j t ht => ?_⟩
  rw [Tryz.params3] at ht
  have hm : t = 32 ∨ t = 32 ∨ t = 30 ∨ t = 30 := by simpa using Array.mem_of_getElem? ht
  rcases hm with rfl | rfl | rfl | rfl <;> exact (show Tryz.prog.wantsStandIn _ = false by kernel_rfl)

/-- THE CARD. -/
theorem card : Rows.EntryTellsCardSaid :=
  Claim7.holds_tied_plain_at .later [] _ _ _ _ said (fun _ h => by cases h) (by kernel_rfl) (fun _ h => by cases h) entryTells_row_tie rfl ⟨rfl, rfl⟩ (by kernel_rfl) rfl plain (by kernel_rfl)
end Go.Proofs.YtckdecodpjfcnaaGreatDoor.entryTells
