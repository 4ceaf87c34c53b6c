/-
  Layer 7, the document's: Bytes of entries.
-/
import Derived.Test.YtckdecodpjfcnaaGreatDoorEnRowsProofP16
set_option linter.unusedVariables false
set_option linter.unusedSimpArgs false
namespace Go.Proofs.YtckdecodpjfcnaaGreatDoor
open Go.RowKit

/-- What a function leaves that hands back bytes. -/
def NmPost (L : List UInt8) (w : World) (e : Ending) (w' : World) : Prop := ∃ A c, e = .returned (.slice A L.length c) ∧ Reads w' w'.heap.size 1 A L.length (cellsB L) ∧ Below w.heap.size w w'
theorem nums_len : ∀ (m : List Int), (∀ z ∈ m, 0 ≤ z ∧ z ≤ 1048577) → (m.flatMap fun z => enc z.toNat).length ≤ 3 * m.length
  | [], _ => Nat.le_refl _
  | z :: m, hm => by
    rw [List.flatMap_cons, List.length_append, List.length_cons]
    have h1 := enc_len3x z.toNat (by have := hm z (List.mem_cons_self ..); omega)
    have h2 := nums_len m fun y hy => hm y (List.mem_cons_of_mem _ hy)
    omega
set_option maxRecDepth 100000 in
set_option maxHeartbeats 2000000 in
theorem rnumbers_any (A : Option Addr) (l : List UInt8) (c b : Nat) (ns : List Int) (cz : Nat) (w : World) (hr : Reads w w.heap.size 1 A l.length (cellsB l)) (hb : b < w.heap.size) (hc : ∀ j z, ns[j]? = some z → w.cell? ⟨b, j, none⟩ = some (.int .i64 z)) (hn : ∀ z ∈ ns, 0 ≤ z ∧ z ≤ 1048577) (hl : l.length + 3 * ns.length ≤ 20000) :
    Calls Tryz.prog 32 #[.slice A l.length c, .slice (some ⟨b, 0, none⟩) ns.length cz] w (NmPost (l ++ ns.flatMap fun z => enc z.toNat) w) := by
  have HC := Lib.hid hc
  have HN := Lib.hid hn
  have HR := Lib.hid hr
  have hlen : ∀ k, (l ++ (ns.take k).flatMap fun z => enc z.toNat).length ≤ l.length + 3 * ns.length := fun k => by
    rw [List.length_append]
    have := nums_len (ns.take k) (fun z hz => hn z (List.mem_of_mem_take hz))
    have h2 : (ns.take k).length ≤ ns.length := by rw [List.length_take]; omega
    omega
  have HLEN := Lib.hid hlen
  clear hr hc hn hlen
  go_enter Tryz.func32, Tryz.ntmps32
  go_wp2_with fail
  go_loopw [0, 5] (fun v x wr => ∃ (k : Nat) (A : Option Addr) (c : Nat) (L : List UInt8), k ≤ ns.length ∧ x = .int .i64 k ∧ L = l ++ (ns.take k).flatMap (fun z => enc z.toNat) ∧ v = .slice A L.length c ∧ Reads wr wr.heap.size 1 A L.length (cellsB L) ∧ Below w.heap.size w wr) (fun _ x _ => ns.length - (intOf x).toNat)
  case atStart => exact ⟨0, A, c, l, Nat.zero_le _, rfl, by simp, rfl, HR.out, Below.refl _ _⟩
  case round =>
    obtain ⟨k, A, c, L, hk, rfl, hL, rfl, hrd, hbel⟩ := hrel
    have RD := Lib.hid hrd
    have BEL := Lib.hid hbel
    have HL := Lib.hid hL
    have hll : L.length ≤ 20000 := by have := HLEN.out k; rw [hL]; omega
    clear hrd hL
    by_cases hlt : k < ns.length
    · have d1 : decide ((k : Int) < (ns.length : Int)) = true := by simp; omega
      have i1 : (0 : Int) ≤ (k : Int) := by omega
      have i2 : (k : Int) < (ns.length : Int) := by omega
      obtain ⟨z, hz⟩ : ∃ z, ns[k]? = some z := ⟨_, List.getElem?_eq_getElem hlt⟩
      have hzr := HN.out z (List.mem_of_getElem? hz)
      have y0 : wr.cell? ⟨b, k, none⟩ = some (.int .i64 z) := (hbel.cell (p := ⟨b, k, none⟩) hb).trans (HC.out k z hz)
      obtain ⟨m, rfl⟩ := Int.eq_ofNat_of_zero_le hzr.1
      have HTK := Lib.hid (show (ns.take (k + 1)).flatMap (fun z => enc z.toNat) = (ns.take k).flatMap (fun z => enc z.toNat) ++ enc m by rw [List.take_add_one, hz]; simp)
      have NM := Lib.hid (rNumber_ok A L c m wr RD.out (by omega) (by unfold maxNum; omega))
      clear hz hbel
      go_wp2_with fail
      refine NM.out.mono ?_
      rintro e w1 ⟨A1, c1, rfl, r1, _, b1⟩
      obtain ⟨L1, hL1⟩ : ∃ L1, L1 = L ++ enc m := ⟨_, rfl⟩
      rw [← hL1] at r1
      rw [← hL1]
      have HL1 := Lib.hid hL1
      have R1 := Lib.hid r1
      have B1 := Lib.hid (btrans BEL.out b1)
      clear hL1 r1 b1
      go_wp2_with fail
      go_roundw
      case rel => exact ⟨k + 1, A1, c1, L1, by omega, by go_num, by rw [HTK.out, ← List.append_assoc, ← HL.out]; exact HL1.out, rfl, R1.out, B1.out⟩
      case measure => simp [intOf]; omega
    · obtain rfl : k = ns.length := by omega
      have d1 : decide ((ns.length : Int) < (ns.length : Int)) = false := by simp
      have hfin : L = l ++ ns.flatMap fun z => enc z.toNat := by rw [HL.out, List.take_length]
      have HFIN := Lib.hid hfin
      clear hfin hbel
      go_wp2_with fail
      go_ret
      exact ⟨A, c, by rw [← HFIN.out]; rfl, by rw [← HFIN.out]; exact RD.out, BEL.out⟩
theorem load_sn {W : World} {b o : Nat} {s : Sn} (h1 : W.cell? ⟨b, o, none⟩ = some (.int .i64 s.1)) (h2 : W.cell? ⟨b, o + 1, none⟩ = some (.int .i64 s.2.1)) (h3 : W.cell? ⟨b, o + 2, none⟩ = some (.int .i64 s.2.2)) : (loadCells ⟨b, o, none⟩ 3).run Tryz.prog W = .ok #[.int .i64 s.1, .int .i64 s.2.1, .int .i64 s.2.2] W :=
  run_loadCells_list (P := Tryz.prog) W ⟨b, o, none⟩ [.int .i64 s.1, .int .i64 s.2.1, .int .i64 s.2.2] (fun j v hv => by
    rw [Addr.add_mid]
    match j, hv with
    | 0, hv => injection hv with hv; subst hv; exact h1
    | 1, hv => injection hv with hv; subst hv; exact h2
    | 2, hv => injection hv with hv; subst hv; exact h3
    | j + 3, hv => simp at hv)
section
attribute [-go_sem] loadCells
set_option maxRecDepth 100000 in
set_option maxHeartbeats 4000000 in
theorem rEnBytes_no (x : En) (hm : mayEn x = false) (A1 D1 : Option Addr) (c1 e1 : Nat) (w : World) (hr : EnR w x A1 D1) :
    Calls Tryz.prog 12 #[(.agg #[.int .i8 x.kd, .int .i64 x.b.pid, .int .i64 x.b.ep, .int .i64 x.b.seq, .bool x.b.txn, .slice A1 x.b.rs.length c1, .bool x.yes, .int .i64 x.nx, .int .i64 x.off, .int .i64 x.row.1, .int .i64 x.row.2.1, .int .i64 x.row.2.2.1, .string x.row.2.2.2.1, .string x.row.2.2.2.2, .int .i64 x.prod.pid, .int .i64 x.prod.ep, .int .i64 x.prod.nx, .slice D1 x.prod.seen.length e1])] w (EbPost [] 2 w) := by
  have hb1 : Below w.heap.size w (w.alloc (.cells #[.int .i8 x.kd, .int .i64 x.b.pid, .int .i64 x.b.ep, .int .i64 x.b.seq, .bool x.b.txn, .slice A1 x.b.rs.length c1, .bool x.yes, .int .i64 x.nx, .int .i64 x.off, .int .i64 x.row.1, .int .i64 x.row.2.1, .int .i64 x.row.2.2.1, .string x.row.2.2.2.1, .string x.row.2.2.2.2, .int .i64 x.prod.pid, .int .i64 x.prod.ep, .int .i64 x.prod.nx, .slice D1 x.prod.seen.length e1] 32)) := bal (Below.refl _ _) _
  have MY := Lib.hid (rEnMay_any x A1 D1 c1 e1 _ (hr.up hb1))
  rw [hm] at MY
  have LC := cells_blk (Blk.new w 32 #[.int .i8 x.kd, .int .i64 x.b.pid, .int .i64 x.b.ep, .int .i64 x.b.seq, .bool x.b.txn, .slice A1 x.b.rs.length c1, .bool x.yes, .int .i64 x.nx, .int .i64 x.off, .int .i64 x.row.1, .int .i64 x.row.2.1, .int .i64 x.row.2.2.1, .string x.row.2.2.2.1, .string x.row.2.2.2.2, .int .i64 x.prod.pid, .int .i64 x.prod.ep, .int .i64 x.prod.nx, .slice D1 x.prod.seen.length e1]) rfl
  have HB := Lib.hid hb1
  clear hm hr hb1
  go_enter Tryz.func12, Tryz.ntmps12
  go_wp2_with fail
  refine MY.out.mono ?_
  rintro e w1 ⟨rfl, b1⟩
  go_wp2_with fail
  go_ret2
  exact ⟨rfl, btrans HB.out b1⟩
set_option maxRecDepth 100000 in
set_option maxHeartbeats 8000000 in
theorem rEnBytes_0 (x : En) (hk : x.kd = 0) (hm : mayEn x = true) (A1 D1 : Option Addr) (c1 e1 : Nat) (w : World) (hr : EnR w x A1 D1) :
    Calls Tryz.prog 12 #[(.agg #[.int .i8 x.kd, .int .i64 x.b.pid, .int .i64 x.b.ep, .int .i64 x.b.seq, .bool x.b.txn, .slice A1 x.b.rs.length c1, .bool x.yes, .int .i64 x.nx, .int .i64 x.off, .int .i64 x.row.1, .int .i64 x.row.2.1, .int .i64 x.row.2.2.1, .string x.row.2.2.2.1, .string x.row.2.2.2.2, .int .i64 x.prod.pid, .int .i64 x.prod.ep, .int .i64 x.prod.nx, .slice D1 x.prod.seen.length e1])] w (EbPost (encEn x) 0 w) := by
  have hb1 : Below w.heap.size w (w.alloc (.cells #[.int .i8 x.kd, .int .i64 x.b.pid, .int .i64 x.b.ep, .int .i64 x.b.seq, .bool x.b.txn, .slice A1 x.b.rs.length c1, .bool x.yes, .int .i64 x.nx, .int .i64 x.off, .int .i64 x.row.1, .int .i64 x.row.2.1, .int .i64 x.row.2.2.1, .string x.row.2.2.2.1, .string x.row.2.2.2.2, .int .i64 x.prod.pid, .int .i64 x.prod.ep, .int .i64 x.prod.nx, .slice D1 x.prod.seen.length e1] 32)) := bal (Below.refl _ _) _
  have MY := Lib.hid (rEnMay_any x A1 D1 c1 e1 _ (hr.up hb1))
  rw [hm] at MY
  have LC := cells_blk (Blk.new w 32 #[.int .i8 x.kd, .int .i64 x.b.pid, .int .i64 x.b.ep, .int .i64 x.b.seq, .bool x.b.txn, .slice A1 x.b.rs.length c1, .bool x.yes, .int .i64 x.nx, .int .i64 x.off, .int .i64 x.row.1, .int .i64 x.row.2.1, .int .i64 x.row.2.2.1, .string x.row.2.2.2.1, .string x.row.2.2.2.2, .int .i64 x.prod.pid, .int .i64 x.prod.ep, .int .i64 x.prod.nx, .slice D1 x.prod.seen.length e1]) rfl
  have KX := Lib.hid (Blk.new w 32 #[.int .i8 x.kd, .int .i64 x.b.pid, .int .i64 x.b.ep, .int .i64 x.b.seq, .bool x.b.txn, .slice A1 x.b.rs.length c1, .bool x.yes, .int .i64 x.nx, .int .i64 x.off, .int .i64 x.row.1, .int .i64 x.row.2.1, .int .i64 x.row.2.2.1, .string x.row.2.2.2.1, .string x.row.2.2.2.2, .int .i64 x.prod.pid, .int .i64 x.prod.ep, .int .i64 x.prod.nx, .slice D1 x.prod.seen.length e1])
  have HB := Lib.hid hb1
  have hok : okEn x = true := by unfold mayEn at hm; rw [Bool.and_eq_true] at hm; exact hm.1
  unfold okEn at hok
  rw [hk] at hok
  have hmb : mayBt x.b = true := hok
  have HF := Lib.hid hmb
  clear hmb
  have cc0 : (x.kd == 0) = true := by rw [hk]; rfl
  have cc1 : (x.kd == 1) = false := by rw [hk]; rfl
  have cc2 : (x.kd == 2) = false := by rw [hk]; rfl
  have cc3 : (x.kd == 3) = false := by rw [hk]; rfl
  have cc4 : (x.kd == 4) = false := by rw [hk]; rfl
  have cc5 : (x.kd == 5) = false := by rw [hk]; rfl
  have cc6 : (x.kd == 6) = false := by rw [hk]; rfl
  have cwk : IntKind.u8.wrap x.kd = x.kd := by rw [hk]; rfl
  obtain ⟨u, hu, hue⟩ : ∃ u : UInt8, (u.toNat : Int) = x.kd ∧ enc x.kd.toNat = [u] := ⟨0, by rw [hk]; rfl, by rw [hk]; rfl⟩
  have henc : encEn x = [u] ++ encBt x.b := by unfold encEn encE; rw [hue, hk]; rfl
  obtain ⟨LF, hLF⟩ : ∃ LF, LF = encEn x := ⟨_, rfl⟩
  rw [← hLF] at henc ⊢
  have HENC := Lib.hid henc
  have HU := Lib.hid hu
  have HRR := Lib.hid (fun W (h : Below w.heap.size w W) => hr.up h)
  clear hm hr hb1 hok hk hue henc hLF hu
  go_enter Tryz.func12, Tryz.ntmps12
  go_wp2_with fail
  refine MY.out.mono ?_
  rintro e w1 ⟨rfl, b1⟩
  have k1 := KX.out.below b1 KX.out.lt
  have x0 := k1.cell 0
  obtain ⟨W2, hW2⟩ : ∃ W2, W2 = w1.alloc (.cells #[.int .u8 x.kd] 5) := ⟨_, rfl⟩
  have o2 := World.ownsRow_lit (e := 5) (base := w1.heap.size) (size := 1) w1 #[.int .u8 (u.toNat : Int)] 1 (Nat.le_refl _) (by unfold maxLen; omega) rfl
  rw [HU.out, ← hW2] at o2
  have O2 := Lib.hid (show W2.ownsRow w1.heap.size 5 1 (.slice (some ⟨w1.heap.size, 0, none⟩) 1 1) 1 (cellsB [u]) from by
    have e : cellsB [u] = [.int .u8 x.kd] := by rw [← HU.out]; rfl
    rw [e]
    exact o2)
  have R2 := Lib.hid (show Reads W2 W2.heap.size 1 (some ⟨w1.heap.size, 0, none⟩) [u].length (cellsB [u]) from Reads.of_own O2.out)
  have HW2 := Lib.hid hW2
  have hl2 : [u].length ≤ 1 := Nat.le_refl _
  have K2 := Lib.hid (show Blk W2 w.heap.size 32 #[.int .i8 x.kd, .int .i64 x.b.pid, .int .i64 x.b.ep, .int .i64 x.b.seq, .bool x.b.txn, .slice A1 x.b.rs.length c1, .bool x.yes, .int .i64 x.nx, .int .i64 x.off, .int .i64 x.row.1, .int .i64 x.row.2.1, .int .i64 x.row.2.2.1, .string x.row.2.2.2.1, .string x.row.2.2.2.2, .int .i64 x.prod.pid, .int .i64 x.prod.ep, .int .i64 x.prod.nx, .slice D1 x.prod.seen.length e1] by rw [hW2]; exact k1.alloc _)
  have B2 := Lib.hid (show Below w.heap.size w W2 by rw [hW2]; exact bal (btrans HB.out b1) _)
  have HS2 := Lib.hid (show w1.heap.size ≤ W2.heap.size by rw [hW2]; simp)
  clear k1 b1 o2 hW2 LC
  go_upto_region 4 with (fail)
  rw [← HW2.out]
  clear x0
  obtain ⟨LB, hLB⟩ : ∃ LB, LB = encBt x.b := ⟨_, rfl⟩
  have hln := encBt_len x.b HF.out
  rw [← hLB] at hln
  have RB := Lib.hid (rRcBytes_ok x.b A1 c1 W2 (HRR.out _ B2.out).1 HF.out)
  rw [← hLB] at RB
  have HLB := Lib.hid hLB
  obtain ⟨i0, hi, hi0, hi1, hi2⟩ := info_parts infoByte
  have hsz : (bs LB).size = LB.length := size_bs LB
  clear hLB
  have x0 := K2.out.cell 0
  have LO := cells_off K2.out 1 5 rfl rfl
  go_wp2_with fail
  refine RB.out.mono ?_
  rintro e w3 ⟨rfl, b3⟩
  have O3 := Lib.hid (own_below O2.out b3)
  have K3 := Lib.hid (K2.out.below b3 K2.out.lt)
  have B3 := Lib.hid (btrans B2.out b3)
  have hs3 : w1.heap.size ≤ w3.heap.size := Nat.le_trans HS2.out b3.size
  clear b3 x0 LO RB
  go_upto_region 7 with (at_builtin; refine wpList_append_full rfl (.tmp 30) (.tmp 31) 46 9 rfl w1.heap.size 5 i0 Tryz.underlying46 Tryz.underlying9 hi hi0 hi1 hi2 w1.heap.size 1 (cellsB [u]) rfl O3.out (bs LB) rfl (by omega) (by omega) (by omega) ?_; intro cap w4 o4 b4)
  have hll4 : 1 + LB.length = ([u] ++ LB).length := by rw [List.length_append]; rfl
  rw [strCells_lb, lb_bs, ← cellsB_append, hsz, hll4] at o4
  obtain ⟨L4, hL4⟩ : ∃ L, L = [u] ++ LB := ⟨_, rfl⟩
  rw [← hL4] at o4 hll4
  try rw [hsz]
  rw [hll4]
  have HL4 := Lib.hid hL4
  have R4 := Lib.hid (Reads.of_own o4)
  have K4 := Lib.hid (K3.out.below b4 K3.out.lt)
  have B4 := Lib.hid (btrans B3.out b4)
  have hl4 : L4.length ≤ 161 := by omega
  obtain ⟨A4', hA4⟩ : ∃ A, A = some (Addr.mk w3.heap.size 0 none) := ⟨_, rfl⟩
  rw [← hA4] at R4
  rw [← hA4]
  clear hL4 o4 b4 hA4 hll4 hsz hln hi hi0 hi1 hi2 hs3
  have x0 := K4.out.cell 0
  have hfin : L4 = LF := by rw [HL4.out, HENC.out, HLB.out]
  have HFIN := Lib.hid hfin
  clear hfin
  have t1 := run_string_of (P := Tryz.prog) (c := cap) Tryz.underlying46 Tryz.underlying5 Tryz.underlying9 R4.out
  go_wp2_with fail
  go_ret2
  exact ⟨by rw [← HFIN.out]; rfl, B4.out⟩
set_option maxRecDepth 100000 in
set_option maxHeartbeats 8000000 in
theorem rEnBytes_1 (x : En) (hk : x.kd = 1) (hm : mayEn x = true) (A1 D1 : Option Addr) (c1 e1 : Nat) (w : World) (hr : EnR w x A1 D1) :
    Calls Tryz.prog 12 #[(.agg #[.int .i8 x.kd, .int .i64 x.b.pid, .int .i64 x.b.ep, .int .i64 x.b.seq, .bool x.b.txn, .slice A1 x.b.rs.length c1, .bool x.yes, .int .i64 x.nx, .int .i64 x.off, .int .i64 x.row.1, .int .i64 x.row.2.1, .int .i64 x.row.2.2.1, .string x.row.2.2.2.1, .string x.row.2.2.2.2, .int .i64 x.prod.pid, .int .i64 x.prod.ep, .int .i64 x.prod.nx, .slice D1 x.prod.seen.length e1])] w (EbPost (encEn x) 0 w) := by
  have hb1 : Below w.heap.size w (w.alloc (.cells #[.int .i8 x.kd, .int .i64 x.b.pid, .int .i64 x.b.ep, .int .i64 x.b.seq, .bool x.b.txn, .slice A1 x.b.rs.length c1, .bool x.yes, .int .i64 x.nx, .int .i64 x.off, .int .i64 x.row.1, .int .i64 x.row.2.1, .int .i64 x.row.2.2.1, .string x.row.2.2.2.1, .string x.row.2.2.2.2, .int .i64 x.prod.pid, .int .i64 x.prod.ep, .int .i64 x.prod.nx, .slice D1 x.prod.seen.length e1] 32)) := bal (Below.refl _ _) _
  have MY := Lib.hid (rEnMay_any x A1 D1 c1 e1 _ (hr.up hb1))
  rw [hm] at MY
  have LC := cells_blk (Blk.new w 32 #[.int .i8 x.kd, .int .i64 x.b.pid, .int .i64 x.b.ep, .int .i64 x.b.seq, .bool x.b.txn, .slice A1 x.b.rs.length c1, .bool x.yes, .int .i64 x.nx, .int .i64 x.off, .int .i64 x.row.1, .int .i64 x.row.2.1, .int .i64 x.row.2.2.1, .string x.row.2.2.2.1, .string x.row.2.2.2.2, .int .i64 x.prod.pid, .int .i64 x.prod.ep, .int .i64 x.prod.nx, .slice D1 x.prod.seen.length e1]) rfl
  have KX := Lib.hid (Blk.new w 32 #[.int .i8 x.kd, .int .i64 x.b.pid, .int .i64 x.b.ep, .int .i64 x.b.seq, .bool x.b.txn, .slice A1 x.b.rs.length c1, .bool x.yes, .int .i64 x.nx, .int .i64 x.off, .int .i64 x.row.1, .int .i64 x.row.2.1, .int .i64 x.row.2.2.1, .string x.row.2.2.2.1, .string x.row.2.2.2.2, .int .i64 x.prod.pid, .int .i64 x.prod.ep, .int .i64 x.prod.nx, .slice D1 x.prod.seen.length e1])
  have HB := Lib.hid hb1
  have hok : okEn x = true := by unfold mayEn at hm; rw [Bool.and_eq_true] at hm; exact hm.1
  unfold okEn at hok
  rw [hk] at hok
  have hp : prodB x.b.pid x.b.ep = true := hok
  unfold prodB at hp
  simp only [Bool.and_eq_true, decide_eq_true_eq] at hp
  have HF := Lib.hid hp
  clear hp
  have cc0 : (x.kd == 0) = false := by rw [hk]; rfl
  have cc1 : (x.kd == 1) = true := by rw [hk]; rfl
  have cc2 : (x.kd == 2) = false := by rw [hk]; rfl
  have cc3 : (x.kd == 3) = false := by rw [hk]; rfl
  have cc4 : (x.kd == 4) = false := by rw [hk]; rfl
  have cc5 : (x.kd == 5) = false := by rw [hk]; rfl
  have cc6 : (x.kd == 6) = false := by rw [hk]; rfl
  have cwk : IntKind.u8.wrap x.kd = x.kd := by rw [hk]; rfl
  obtain ⟨u, hu, hue⟩ : ∃ u : UInt8, (u.toNat : Int) = x.kd ∧ enc x.kd.toNat = [u] := ⟨1, by rw [hk]; rfl, by rw [hk]; rfl⟩
  have henc : encEn x = [u] ++ (enc x.b.pid.toNat ++ (enc x.b.ep.toNat ++ encY x.yes)) := by unfold encEn encE; rw [hue, hk]; rfl
  obtain ⟨LF, hLF⟩ : ∃ LF, LF = encEn x := ⟨_, rfl⟩
  rw [← hLF] at henc ⊢
  have HENC := Lib.hid henc
  have HU := Lib.hid hu
  have HRR := Lib.hid (fun W (h : Below w.heap.size w W) => hr.up h)
  clear hm hr hb1 hok hk hue henc hLF hu
  go_enter Tryz.func12, Tryz.ntmps12
  go_wp2_with fail
  refine MY.out.mono ?_
  rintro e w1 ⟨rfl, b1⟩
  have k1 := KX.out.below b1 KX.out.lt
  have x0 := k1.cell 0
  obtain ⟨W2, hW2⟩ : ∃ W2, W2 = w1.alloc (.cells #[.int .u8 x.kd] 5) := ⟨_, rfl⟩
  have o2 := World.ownsRow_lit (e := 5) (base := w1.heap.size) (size := 1) w1 #[.int .u8 (u.toNat : Int)] 1 (Nat.le_refl _) (by unfold maxLen; omega) rfl
  rw [HU.out, ← hW2] at o2
  have O2 := Lib.hid (show W2.ownsRow w1.heap.size 5 1 (.slice (some ⟨w1.heap.size, 0, none⟩) 1 1) 1 (cellsB [u]) from by
    have e : cellsB [u] = [.int .u8 x.kd] := by rw [← HU.out]; rfl
    rw [e]
    exact o2)
  have R2 := Lib.hid (show Reads W2 W2.heap.size 1 (some ⟨w1.heap.size, 0, none⟩) [u].length (cellsB [u]) from Reads.of_own O2.out)
  have HW2 := Lib.hid hW2
  have hl2 : [u].length ≤ 1 := Nat.le_refl _
  have K2 := Lib.hid (show Blk W2 w.heap.size 32 #[.int .i8 x.kd, .int .i64 x.b.pid, .int .i64 x.b.ep, .int .i64 x.b.seq, .bool x.b.txn, .slice A1 x.b.rs.length c1, .bool x.yes, .int .i64 x.nx, .int .i64 x.off, .int .i64 x.row.1, .int .i64 x.row.2.1, .int .i64 x.row.2.2.1, .string x.row.2.2.2.1, .string x.row.2.2.2.2, .int .i64 x.prod.pid, .int .i64 x.prod.ep, .int .i64 x.prod.nx, .slice D1 x.prod.seen.length e1] by rw [hW2]; exact k1.alloc _)
  have B2 := Lib.hid (show Below w.heap.size w W2 by rw [hW2]; exact bal (btrans HB.out b1) _)
  have HS2 := Lib.hid (show w1.heap.size ≤ W2.heap.size by rw [hW2]; simp)
  clear k1 b1 o2 hW2 LC
  go_upto_region 4 with (fail)
  rw [← HW2.out]
  clear x0
  have x0 := K2.out.cell 0
  have x1 := K2.out.cell 1
  have x2 := K2.out.cell 2
  have hf := HF.out
  have HZ := Lib.hid (show ∀ z ∈ ([x.b.pid, x.b.ep] : List Int), 0 ≤ z ∧ z ≤ 1048577 by simp only [List.mem_cons, List.not_mem_nil, or_false]; rintro z hz; omega)
  have BA3 := Lib.hid (bal (Below.refl W2.heap.size W2) (.cells #[.int .i64 (x.b.pid), .int .i64 (x.b.ep)] 3))
  clear hf
  go_wp2_with fail
  refine (rnumbers_any (some ⟨w1.heap.size, 0, none⟩) [u] 1 W2.heap.size [x.b.pid, x.b.ep] 2 (W2.alloc (.cells #[.int .i64 (x.b.pid), .int .i64 (x.b.ep)] 3)) ((R2.out.alloc (Nat.le_refl _) _).more (by simp)) (by simp) (ints_new W2 [x.b.pid, x.b.ep] 3 _ rfl) HZ.out (by simp only [List.length_cons, List.length_nil]; omega)).mono ?_
  rintro e w3 ⟨A3', c3', rfl, r3, b3⟩
  replace b3 := btrans BA3.out b3
  obtain ⟨L3, hL3⟩ : ∃ L, L = [u] ++ [x.b.pid, x.b.ep].flatMap fun z => enc z.toNat := ⟨_, rfl⟩
  rw [← hL3] at r3
  rw [← hL3]
  have HL3 := Lib.hid hL3
  have R3 := Lib.hid r3
  have B3 := Lib.hid (btrans B2.out b3)
  have K3 := Lib.hid (K2.out.below b3 K2.out.lt)
  have hl3 : L3.length ≤ 7 := by
    have h9 := nums_len _ HZ.out
    rw [hL3, List.length_append]
    simp only [List.length_cons, List.length_nil] at h9 hl2 ⊢
    omega
  clear hL3 r3 b3 x0 x1 x2
  clear HZ BA3
  have x0 := K3.out.cell 0
  have x6 := K3.out.cell 6
  go_wp2_with fail
  refine (rFlag_any A3' L3 c3' x.yes w3 R3.out (by omega)).mono ?_
  rintro e w4 ⟨A4', c4', rfl, r4, _, b4⟩
  obtain ⟨L4, hL4⟩ : ∃ L, L = L3 ++ encY x.yes := ⟨_, rfl⟩
  rw [← hL4] at r4
  rw [← hL4]
  have HL4 := Lib.hid hL4
  have R4 := Lib.hid (Reads.of_own r4)
  have B4 := Lib.hid (btrans B3.out b4)
  have K4 := Lib.hid (K3.out.below b4 K3.out.lt)
  have hl4 : L4.length ≤ 8 := by
    rw [hL4, List.length_append]
    have : (encY x.yes).length = 1 := rfl
    omega
  clear hL4 r4 b4 x0 x6
  have x0 := K4.out.cell 0
  have hfin : L4 = LF := by rw [HL4.out, HL3.out, HENC.out]; simp
  have HFIN := Lib.hid hfin
  clear hfin
  have t1 := run_string_of (P := Tryz.prog) (c := c4') Tryz.underlying46 Tryz.underlying5 Tryz.underlying9 R4.out
  go_wp2_with fail
  go_ret2
  exact ⟨by rw [← HFIN.out]; rfl, B4.out⟩
set_option maxRecDepth 100000 in
set_option maxHeartbeats 8000000 in
theorem rEnBytes_2 (x : En) (hk : x.kd = 2) (hm : mayEn x = true) (A1 D1 : Option Addr) (c1 e1 : Nat) (w : World) (hr : EnR w x A1 D1) :
    Calls Tryz.prog 12 #[(.agg #[.int .i8 x.kd, .int .i64 x.b.pid, .int .i64 x.b.ep, .int .i64 x.b.seq, .bool x.b.txn, .slice A1 x.b.rs.length c1, .bool x.yes, .int .i64 x.nx, .int .i64 x.off, .int .i64 x.row.1, .int .i64 x.row.2.1, .int .i64 x.row.2.2.1, .string x.row.2.2.2.1, .string x.row.2.2.2.2, .int .i64 x.prod.pid, .int .i64 x.prod.ep, .int .i64 x.prod.nx, .slice D1 x.prod.seen.length e1])] w (EbPost (encEn x) 0 w) := by
  have hb1 : Below w.heap.size w (w.alloc (.cells #[.int .i8 x.kd, .int .i64 x.b.pid, .int .i64 x.b.ep, .int .i64 x.b.seq, .bool x.b.txn, .slice A1 x.b.rs.length c1, .bool x.yes, .int .i64 x.nx, .int .i64 x.off, .int .i64 x.row.1, .int .i64 x.row.2.1, .int .i64 x.row.2.2.1, .string x.row.2.2.2.1, .string x.row.2.2.2.2, .int .i64 x.prod.pid, .int .i64 x.prod.ep, .int .i64 x.prod.nx, .slice D1 x.prod.seen.length e1] 32)) := bal (Below.refl _ _) _
  have MY := Lib.hid (rEnMay_any x A1 D1 c1 e1 _ (hr.up hb1))
  rw [hm] at MY
  have LC := cells_blk (Blk.new w 32 #[.int .i8 x.kd, .int .i64 x.b.pid, .int .i64 x.b.ep, .int .i64 x.b.seq, .bool x.b.txn, .slice A1 x.b.rs.length c1, .bool x.yes, .int .i64 x.nx, .int .i64 x.off, .int .i64 x.row.1, .int .i64 x.row.2.1, .int .i64 x.row.2.2.1, .string x.row.2.2.2.1, .string x.row.2.2.2.2, .int .i64 x.prod.pid, .int .i64 x.prod.ep, .int .i64 x.prod.nx, .slice D1 x.prod.seen.length e1]) rfl
  have KX := Lib.hid (Blk.new w 32 #[.int .i8 x.kd, .int .i64 x.b.pid, .int .i64 x.b.ep, .int .i64 x.b.seq, .bool x.b.txn, .slice A1 x.b.rs.length c1, .bool x.yes, .int .i64 x.nx, .int .i64 x.off, .int .i64 x.row.1, .int .i64 x.row.2.1, .int .i64 x.row.2.2.1, .string x.row.2.2.2.1, .string x.row.2.2.2.2, .int .i64 x.prod.pid, .int .i64 x.prod.ep, .int .i64 x.prod.nx, .slice D1 x.prod.seen.length e1])
  have HB := Lib.hid hb1
  have hok : okEn x = true := by unfold mayEn at hm; rw [Bool.and_eq_true] at hm; exact hm.1
  unfold okEn at hok
  rw [hk] at hok
  have hp : seqB x.off = true := hok
  unfold seqB at hp
  simp only [decide_eq_true_eq] at hp
  have HF := Lib.hid hp
  clear hp
  have cc0 : (x.kd == 0) = false := by rw [hk]; rfl
  have cc1 : (x.kd == 1) = false := by rw [hk]; rfl
  have cc2 : (x.kd == 2) = true := by rw [hk]; rfl
  have cc3 : (x.kd == 3) = false := by rw [hk]; rfl
  have cc4 : (x.kd == 4) = false := by rw [hk]; rfl
  have cc5 : (x.kd == 5) = false := by rw [hk]; rfl
  have cc6 : (x.kd == 6) = false := by rw [hk]; rfl
  have cwk : IntKind.u8.wrap x.kd = x.kd := by rw [hk]; rfl
  obtain ⟨u, hu, hue⟩ : ∃ u : UInt8, (u.toNat : Int) = x.kd ∧ enc x.kd.toNat = [u] := ⟨2, by rw [hk]; rfl, by rw [hk]; rfl⟩
  have henc : encEn x = [u] ++ enc x.off.toNat := by unfold encEn encE; rw [hue, hk]; rfl
  obtain ⟨LF, hLF⟩ : ∃ LF, LF = encEn x := ⟨_, rfl⟩
  rw [← hLF] at henc ⊢
  have HENC := Lib.hid henc
  have HU := Lib.hid hu
  have HRR := Lib.hid (fun W (h : Below w.heap.size w W) => hr.up h)
  clear hm hr hb1 hok hk hue henc hLF hu
  go_enter Tryz.func12, Tryz.ntmps12
  go_wp2_with fail
  refine MY.out.mono ?_
  rintro e w1 ⟨rfl, b1⟩
  have k1 := KX.out.below b1 KX.out.lt
  have x0 := k1.cell 0
  obtain ⟨W2, hW2⟩ : ∃ W2, W2 = w1.alloc (.cells #[.int .u8 x.kd] 5) := ⟨_, rfl⟩
  have o2 := World.ownsRow_lit (e := 5) (base := w1.heap.size) (size := 1) w1 #[.int .u8 (u.toNat : Int)] 1 (Nat.le_refl _) (by unfold maxLen; omega) rfl
  rw [HU.out, ← hW2] at o2
  have O2 := Lib.hid (show W2.ownsRow w1.heap.size 5 1 (.slice (some ⟨w1.heap.size, 0, none⟩) 1 1) 1 (cellsB [u]) from by
    have e : cellsB [u] = [.int .u8 x.kd] := by rw [← HU.out]; rfl
    rw [e]
    exact o2)
  have R2 := Lib.hid (show Reads W2 W2.heap.size 1 (some ⟨w1.heap.size, 0, none⟩) [u].length (cellsB [u]) from Reads.of_own O2.out)
  have HW2 := Lib.hid hW2
  have hl2 : [u].length ≤ 1 := Nat.le_refl _
  have K2 := Lib.hid (show Blk W2 w.heap.size 32 #[.int .i8 x.kd, .int .i64 x.b.pid, .int .i64 x.b.ep, .int .i64 x.b.seq, .bool x.b.txn, .slice A1 x.b.rs.length c1, .bool x.yes, .int .i64 x.nx, .int .i64 x.off, .int .i64 x.row.1, .int .i64 x.row.2.1, .int .i64 x.row.2.2.1, .string x.row.2.2.2.1, .string x.row.2.2.2.2, .int .i64 x.prod.pid, .int .i64 x.prod.ep, .int .i64 x.prod.nx, .slice D1 x.prod.seen.length e1] by rw [hW2]; exact k1.alloc _)
  have B2 := Lib.hid (show Below w.heap.size w W2 by rw [hW2]; exact bal (btrans HB.out b1) _)
  have HS2 := Lib.hid (show w1.heap.size ≤ W2.heap.size by rw [hW2]; simp)
  clear k1 b1 o2 hW2 LC
  go_upto_region 4 with (fail)
  rw [← HW2.out]
  clear x0
  have x0 := K2.out.cell 0
  have x8 := K2.out.cell 8
  have hf := HF.out
  have HZ := Lib.hid (show ∀ z ∈ ([x.off] : List Int), 0 ≤ z ∧ z ≤ 1048577 by simp only [List.mem_cons, List.not_mem_nil, or_false]; rintro z hz; omega)
  have BA3 := Lib.hid (bal (Below.refl W2.heap.size W2) (.cells #[.int .i64 (x.off)] 3))
  clear hf
  go_wp2_with fail
  refine (rnumbers_any (some ⟨w1.heap.size, 0, none⟩) [u] 1 W2.heap.size [x.off] 1 (W2.alloc (.cells #[.int .i64 (x.off)] 3)) ((R2.out.alloc (Nat.le_refl _) _).more (by simp)) (by simp) (ints_new W2 [x.off] 3 _ rfl) HZ.out (by simp only [List.length_cons, List.length_nil]; omega)).mono ?_
  rintro e w3 ⟨A3', c3', rfl, r3, b3⟩
  replace b3 := btrans BA3.out b3
  obtain ⟨L3, hL3⟩ : ∃ L, L = [u] ++ [x.off].flatMap fun z => enc z.toNat := ⟨_, rfl⟩
  rw [← hL3] at r3
  rw [← hL3]
  have HL3 := Lib.hid hL3
  have R3 := Lib.hid r3
  have B3 := Lib.hid (btrans B2.out b3)
  have K3 := Lib.hid (K2.out.below b3 K2.out.lt)
  have hl3 : L3.length ≤ 4 := by
    have h9 := nums_len _ HZ.out
    rw [hL3, List.length_append]
    simp only [List.length_cons, List.length_nil] at h9 hl2 ⊢
    omega
  clear hL3 r3 b3 x0 x8
  clear HZ BA3
  have x0 := K3.out.cell 0
  have hfin : L3 = LF := by rw [HL3.out, HENC.out]; simp
  have HFIN := Lib.hid hfin
  clear hfin
  have t1 := run_string_of (P := Tryz.prog) (c := c3') Tryz.underlying46 Tryz.underlying5 Tryz.underlying9 R3.out
  go_wp2_with fail
  go_ret2
  exact ⟨by rw [← HFIN.out]; rfl, B3.out⟩
set_option maxRecDepth 100000 in
set_option maxHeartbeats 8000000 in
theorem rEnBytes_3f (x : En) (hk : x.kd = 3) (hy : x.yes = false) (hm : mayEn x = true) (A1 D1 : Option Addr) (c1 e1 : Nat) (w : World) (hr : EnR w x A1 D1) :
    Calls Tryz.prog 12 #[(.agg #[.int .i8 x.kd, .int .i64 x.b.pid, .int .i64 x.b.ep, .int .i64 x.b.seq, .bool x.b.txn, .slice A1 x.b.rs.length c1, .bool x.yes, .int .i64 x.nx, .int .i64 x.off, .int .i64 x.row.1, .int .i64 x.row.2.1, .int .i64 x.row.2.2.1, .string x.row.2.2.2.1, .string x.row.2.2.2.2, .int .i64 x.prod.pid, .int .i64 x.prod.ep, .int .i64 x.prod.nx, .slice D1 x.prod.seen.length e1])] w (EbPost (encEn x) 0 w) := by
  have hb1 : Below w.heap.size w (w.alloc (.cells #[.int .i8 x.kd, .int .i64 x.b.pid, .int .i64 x.b.ep, .int .i64 x.b.seq, .bool x.b.txn, .slice A1 x.b.rs.length c1, .bool x.yes, .int .i64 x.nx, .int .i64 x.off, .int .i64 x.row.1, .int .i64 x.row.2.1, .int .i64 x.row.2.2.1, .string x.row.2.2.2.1, .string x.row.2.2.2.2, .int .i64 x.prod.pid, .int .i64 x.prod.ep, .int .i64 x.prod.nx, .slice D1 x.prod.seen.length e1] 32)) := bal (Below.refl _ _) _
  have MY := Lib.hid (rEnMay_any x A1 D1 c1 e1 _ (hr.up hb1))
  rw [hm] at MY
  have LC := cells_blk (Blk.new w 32 #[.int .i8 x.kd, .int .i64 x.b.pid, .int .i64 x.b.ep, .int .i64 x.b.seq, .bool x.b.txn, .slice A1 x.b.rs.length c1, .bool x.yes, .int .i64 x.nx, .int .i64 x.off, .int .i64 x.row.1, .int .i64 x.row.2.1, .int .i64 x.row.2.2.1, .string x.row.2.2.2.1, .string x.row.2.2.2.2, .int .i64 x.prod.pid, .int .i64 x.prod.ep, .int .i64 x.prod.nx, .slice D1 x.prod.seen.length e1]) rfl
  have KX := Lib.hid (Blk.new w 32 #[.int .i8 x.kd, .int .i64 x.b.pid, .int .i64 x.b.ep, .int .i64 x.b.seq, .bool x.b.txn, .slice A1 x.b.rs.length c1, .bool x.yes, .int .i64 x.nx, .int .i64 x.off, .int .i64 x.row.1, .int .i64 x.row.2.1, .int .i64 x.row.2.2.1, .string x.row.2.2.2.1, .string x.row.2.2.2.2, .int .i64 x.prod.pid, .int .i64 x.prod.ep, .int .i64 x.prod.nx, .slice D1 x.prod.seen.length e1])
  have HB := Lib.hid hb1
  have hok : okEn x = true := by unfold mayEn at hm; rw [Bool.and_eq_true] at hm; exact hm.1
  unfold okEn at hok
  rw [hk] at hok
  have hp : ((x.b.txn && (!x.yes || seqB x.nx)) && mayBt x.b) = true := hok
  rw [Bool.and_eq_true, Bool.and_eq_true] at hp
  have hq : x.yes = true → 0 ≤ x.nx ∧ x.nx ≤ 1048576 := fun hy => by
    have := hp.1.2
    rw [hy] at this
    unfold seqB at this
    simpa using this
  have HF := Lib.hid hp
  have HQ := Lib.hid hq
  clear hp hq
  have cc0 : (x.kd == 0) = false := by rw [hk]; rfl
  have cc1 : (x.kd == 1) = false := by rw [hk]; rfl
  have cc2 : (x.kd == 2) = false := by rw [hk]; rfl
  have cc3 : (x.kd == 3) = true := by rw [hk]; rfl
  have cc4 : (x.kd == 4) = false := by rw [hk]; rfl
  have cc5 : (x.kd == 5) = false := by rw [hk]; rfl
  have cc6 : (x.kd == 6) = false := by rw [hk]; rfl
  have cwk : IntKind.u8.wrap x.kd = x.kd := by rw [hk]; rfl
  obtain ⟨u, hu, hue⟩ : ∃ u : UInt8, (u.toNat : Int) = x.kd ∧ enc x.kd.toNat = [u] := ⟨3, by rw [hk]; rfl, by rw [hk]; rfl⟩
  have henc : encEn x = [u] ++ (encBt x.b ++ (encY x.yes ++ [])) := by unfold encEn encE; rw [hue, hk]; first | rfl | (show [u] ++ (encBt x.b ++ (encY x.yes ++ (cIf x.yes).e x.nx)) = _; rw [hy]; rfl)
  obtain ⟨LF, hLF⟩ : ∃ LF, LF = encEn x := ⟨_, rfl⟩
  rw [← hLF] at henc ⊢
  have HENC := Lib.hid henc
  have HU := Lib.hid hu
  have HRR := Lib.hid (fun W (h : Below w.heap.size w W) => hr.up h)
  have HY := Lib.hid hy
  clear hy
  clear hm hr hb1 hok hk hue henc hLF hu
  go_enter Tryz.func12, Tryz.ntmps12
  go_wp2_with fail
  refine MY.out.mono ?_
  rintro e w1 ⟨rfl, b1⟩
  have k1 := KX.out.below b1 KX.out.lt
  have x0 := k1.cell 0
  obtain ⟨W2, hW2⟩ : ∃ W2, W2 = w1.alloc (.cells #[.int .u8 x.kd] 5) := ⟨_, rfl⟩
  have o2 := World.ownsRow_lit (e := 5) (base := w1.heap.size) (size := 1) w1 #[.int .u8 (u.toNat : Int)] 1 (Nat.le_refl _) (by unfold maxLen; omega) rfl
  rw [HU.out, ← hW2] at o2
  have O2 := Lib.hid (show W2.ownsRow w1.heap.size 5 1 (.slice (some ⟨w1.heap.size, 0, none⟩) 1 1) 1 (cellsB [u]) from by
    have e : cellsB [u] = [.int .u8 x.kd] := by rw [← HU.out]; rfl
    rw [e]
    exact o2)
  have R2 := Lib.hid (show Reads W2 W2.heap.size 1 (some ⟨w1.heap.size, 0, none⟩) [u].length (cellsB [u]) from Reads.of_own O2.out)
  have HW2 := Lib.hid hW2
  have hl2 : [u].length ≤ 1 := Nat.le_refl _
  have K2 := Lib.hid (show Blk W2 w.heap.size 32 #[.int .i8 x.kd, .int .i64 x.b.pid, .int .i64 x.b.ep, .int .i64 x.b.seq, .bool x.b.txn, .slice A1 x.b.rs.length c1, .bool x.yes, .int .i64 x.nx, .int .i64 x.off, .int .i64 x.row.1, .int .i64 x.row.2.1, .int .i64 x.row.2.2.1, .string x.row.2.2.2.1, .string x.row.2.2.2.2, .int .i64 x.prod.pid, .int .i64 x.prod.ep, .int .i64 x.prod.nx, .slice D1 x.prod.seen.length e1] by rw [hW2]; exact k1.alloc _)
  have B2 := Lib.hid (show Below w.heap.size w W2 by rw [hW2]; exact bal (btrans HB.out b1) _)
  have HS2 := Lib.hid (show w1.heap.size ≤ W2.heap.size by rw [hW2]; simp)
  clear k1 b1 o2 hW2 LC
  go_upto_region 4 with (fail)
  rw [← HW2.out]
  clear x0
  obtain ⟨LB, hLB⟩ : ∃ LB, LB = encBt x.b := ⟨_, rfl⟩
  have hln := encBt_len x.b HF.out.2
  rw [← hLB] at hln
  have RB := Lib.hid (rRcBytes_ok x.b A1 c1 W2 (HRR.out _ B2.out).1 HF.out.2)
  rw [← hLB] at RB
  have HLB := Lib.hid hLB
  obtain ⟨i0, hi, hi0, hi1, hi2⟩ := info_parts infoByte
  have hsz : (bs LB).size = LB.length := size_bs LB
  clear hLB
  have x0 := K2.out.cell 0
  have LO := cells_off K2.out 1 5 rfl rfl
  go_wp2_with fail
  refine RB.out.mono ?_
  rintro e w3 ⟨rfl, b3⟩
  have O3 := Lib.hid (own_below O2.out b3)
  have K3 := Lib.hid (K2.out.below b3 K2.out.lt)
  have B3 := Lib.hid (btrans B2.out b3)
  have hs3 : w1.heap.size ≤ w3.heap.size := Nat.le_trans HS2.out b3.size
  clear b3 x0 LO RB
  go_upto_region 7 with (at_builtin; refine wpList_append_full rfl (.tmp 30) (.tmp 31) 46 9 rfl w1.heap.size 5 i0 Tryz.underlying46 Tryz.underlying9 hi hi0 hi1 hi2 w1.heap.size 1 (cellsB [u]) rfl O3.out (bs LB) rfl (by omega) (by omega) (by omega) ?_; intro cap w4 o4 b4)
  have hll4 : 1 + LB.length = ([u] ++ LB).length := by rw [List.length_append]; rfl
  rw [strCells_lb, lb_bs, ← cellsB_append, hsz, hll4] at o4
  obtain ⟨L4, hL4⟩ : ∃ L, L = [u] ++ LB := ⟨_, rfl⟩
  rw [← hL4] at o4 hll4
  try rw [hsz]
  rw [hll4]
  have HL4 := Lib.hid hL4
  have R4 := Lib.hid (Reads.of_own o4)
  have K4 := Lib.hid (K3.out.below b4 K3.out.lt)
  have B4 := Lib.hid (btrans B3.out b4)
  have hl4 : L4.length ≤ 161 := by omega
  obtain ⟨A4', hA4⟩ : ∃ A, A = some (Addr.mk w3.heap.size 0 none) := ⟨_, rfl⟩
  rw [← hA4] at R4
  rw [← hA4]
  clear hL4 o4 b4 hA4 hll4 hsz hln hi hi0 hi1 hi2 hs3
  have x0 := K4.out.cell 0
  have x6 := K4.out.cell 6
  go_wp2_with fail
  refine (rFlag_any A4' L4 cap x.yes w4 R4.out (by omega)).mono ?_
  rintro e w5 ⟨A5', c5', rfl, r5, _, b5⟩
  obtain ⟨L5, hL5⟩ : ∃ L, L = L4 ++ encY x.yes := ⟨_, rfl⟩
  rw [← hL5] at r5
  rw [← hL5]
  have HL5 := Lib.hid hL5
  have R5 := Lib.hid (Reads.of_own r5)
  have B5 := Lib.hid (btrans B4.out b5)
  have K5 := Lib.hid (K4.out.below b5 K4.out.lt)
  have hl5 : L5.length ≤ 162 := by
    rw [hL5, List.length_append]
    have : (encY x.yes).length = 1 := rfl
    omega
  clear hL5 r5 b5 x0 x6
  have x6 := K5.out.cell 6
  rw [HY.out] at x6
  have x0 := K5.out.cell 0
  have hfin : L5 = LF := by rw [HL5.out, HL4.out, HENC.out, HLB.out]; simp
  have HFIN := Lib.hid hfin
  clear hfin
  have t1 := run_string_of (P := Tryz.prog) (c := c5') Tryz.underlying46 Tryz.underlying5 Tryz.underlying9 R5.out
  go_wp2_with fail
  go_ret2
  exact ⟨by rw [← HFIN.out]; rfl, B5.out⟩
set_option maxRecDepth 100000 in
set_option maxHeartbeats 8000000 in
theorem rEnBytes_3t (x : En) (hk : x.kd = 3) (hy : x.yes = true) (hm : mayEn x = true) (A1 D1 : Option Addr) (c1 e1 : Nat) (w : World) (hr : EnR w x A1 D1) :
    Calls Tryz.prog 12 #[(.agg #[.int .i8 x.kd, .int .i64 x.b.pid, .int .i64 x.b.ep, .int .i64 x.b.seq, .bool x.b.txn, .slice A1 x.b.rs.length c1, .bool x.yes, .int .i64 x.nx, .int .i64 x.off, .int .i64 x.row.1, .int .i64 x.row.2.1, .int .i64 x.row.2.2.1, .string x.row.2.2.2.1, .string x.row.2.2.2.2, .int .i64 x.prod.pid, .int .i64 x.prod.ep, .int .i64 x.prod.nx, .slice D1 x.prod.seen.length e1])] w (EbPost (encEn x) 0 w) := by
  have hb1 : Below w.heap.size w (w.alloc (.cells #[.int .i8 x.kd, .int .i64 x.b.pid, .int .i64 x.b.ep, .int .i64 x.b.seq, .bool x.b.txn, .slice A1 x.b.rs.length c1, .bool x.yes, .int .i64 x.nx, .int .i64 x.off, .int .i64 x.row.1, .int .i64 x.row.2.1, .int .i64 x.row.2.2.1, .string x.row.2.2.2.1, .string x.row.2.2.2.2, .int .i64 x.prod.pid, .int .i64 x.prod.ep, .int .i64 x.prod.nx, .slice D1 x.prod.seen.length e1] 32)) := bal (Below.refl _ _) _
  have MY := Lib.hid (rEnMay_any x A1 D1 c1 e1 _ (hr.up hb1))
  rw [hm] at MY
  have LC := cells_blk (Blk.new w 32 #[.int .i8 x.kd, .int .i64 x.b.pid, .int .i64 x.b.ep, .int .i64 x.b.seq, .bool x.b.txn, .slice A1 x.b.rs.length c1, .bool x.yes, .int .i64 x.nx, .int .i64 x.off, .int .i64 x.row.1, .int .i64 x.row.2.1, .int .i64 x.row.2.2.1, .string x.row.2.2.2.1, .string x.row.2.2.2.2, .int .i64 x.prod.pid, .int .i64 x.prod.ep, .int .i64 x.prod.nx, .slice D1 x.prod.seen.length e1]) rfl
  have KX := Lib.hid (Blk.new w 32 #[.int .i8 x.kd, .int .i64 x.b.pid, .int .i64 x.b.ep, .int .i64 x.b.seq, .bool x.b.txn, .slice A1 x.b.rs.length c1, .bool x.yes, .int .i64 x.nx, .int .i64 x.off, .int .i64 x.row.1, .int .i64 x.row.2.1, .int .i64 x.row.2.2.1, .string x.row.2.2.2.1, .string x.row.2.2.2.2, .int .i64 x.prod.pid, .int .i64 x.prod.ep, .int .i64 x.prod.nx, .slice D1 x.prod.seen.length e1])
  have HB := Lib.hid hb1
  have hok : okEn x = true := by unfold mayEn at hm; rw [Bool.and_eq_true] at hm; exact hm.1
  unfold okEn at hok
  rw [hk] at hok
  have hp : ((x.b.txn && (!x.yes || seqB x.nx)) && mayBt x.b) = true := hok
  rw [Bool.and_eq_true, Bool.and_eq_true] at hp
  have hq : x.yes = true → 0 ≤ x.nx ∧ x.nx ≤ 1048576 := fun hy => by
    have := hp.1.2
    rw [hy] at this
    unfold seqB at this
    simpa using this
  have HF := Lib.hid hp
  have HQ := Lib.hid hq
  clear hp hq
  have cc0 : (x.kd == 0) = false := by rw [hk]; rfl
  have cc1 : (x.kd == 1) = false := by rw [hk]; rfl
  have cc2 : (x.kd == 2) = false := by rw [hk]; rfl
  have cc3 : (x.kd == 3) = true := by rw [hk]; rfl
  have cc4 : (x.kd == 4) = false := by rw [hk]; rfl
  have cc5 : (x.kd == 5) = false := by rw [hk]; rfl
  have cc6 : (x.kd == 6) = false := by rw [hk]; rfl
  have cwk : IntKind.u8.wrap x.kd = x.kd := by rw [hk]; rfl
  obtain ⟨u, hu, hue⟩ : ∃ u : UInt8, (u.toNat : Int) = x.kd ∧ enc x.kd.toNat = [u] := ⟨3, by rw [hk]; rfl, by rw [hk]; rfl⟩
  have henc : encEn x = [u] ++ (encBt x.b ++ (encY x.yes ++ enc x.nx.toNat)) := by unfold encEn encE; rw [hue, hk]; first | rfl | (show [u] ++ (encBt x.b ++ (encY x.yes ++ (cIf x.yes).e x.nx)) = _; rw [hy]; rfl)
  obtain ⟨LF, hLF⟩ : ∃ LF, LF = encEn x := ⟨_, rfl⟩
  rw [← hLF] at henc ⊢
  have HENC := Lib.hid henc
  have HU := Lib.hid hu
  have HRR := Lib.hid (fun W (h : Below w.heap.size w W) => hr.up h)
  have HY := Lib.hid hy
  clear hy
  clear hm hr hb1 hok hk hue henc hLF hu
  go_enter Tryz.func12, Tryz.ntmps12
  go_wp2_with fail
  refine MY.out.mono ?_
  rintro e w1 ⟨rfl, b1⟩
  have k1 := KX.out.below b1 KX.out.lt
  have x0 := k1.cell 0
  obtain ⟨W2, hW2⟩ : ∃ W2, W2 = w1.alloc (.cells #[.int .u8 x.kd] 5) := ⟨_, rfl⟩
  have o2 := World.ownsRow_lit (e := 5) (base := w1.heap.size) (size := 1) w1 #[.int .u8 (u.toNat : Int)] 1 (Nat.le_refl _) (by unfold maxLen; omega) rfl
  rw [HU.out, ← hW2] at o2
  have O2 := Lib.hid (show W2.ownsRow w1.heap.size 5 1 (.slice (some ⟨w1.heap.size, 0, none⟩) 1 1) 1 (cellsB [u]) from by
    have e : cellsB [u] = [.int .u8 x.kd] := by rw [← HU.out]; rfl
    rw [e]
    exact o2)
  have R2 := Lib.hid (show Reads W2 W2.heap.size 1 (some ⟨w1.heap.size, 0, none⟩) [u].length (cellsB [u]) from Reads.of_own O2.out)
  have HW2 := Lib.hid hW2
  have hl2 : [u].length ≤ 1 := Nat.le_refl _
  have K2 := Lib.hid (show Blk W2 w.heap.size 32 #[.int .i8 x.kd, .int .i64 x.b.pid, .int .i64 x.b.ep, .int .i64 x.b.seq, .bool x.b.txn, .slice A1 x.b.rs.length c1, .bool x.yes, .int .i64 x.nx, .int .i64 x.off, .int .i64 x.row.1, .int .i64 x.row.2.1, .int .i64 x.row.2.2.1, .string x.row.2.2.2.1, .string x.row.2.2.2.2, .int .i64 x.prod.pid, .int .i64 x.prod.ep, .int .i64 x.prod.nx, .slice D1 x.prod.seen.length e1] by rw [hW2]; exact k1.alloc _)
  have B2 := Lib.hid (show Below w.heap.size w W2 by rw [hW2]; exact bal (btrans HB.out b1) _)
  have HS2 := Lib.hid (show w1.heap.size ≤ W2.heap.size by rw [hW2]; simp)
  clear k1 b1 o2 hW2 LC
  go_upto_region 4 with (fail)
  rw [← HW2.out]
  clear x0
  obtain ⟨LB, hLB⟩ : ∃ LB, LB = encBt x.b := ⟨_, rfl⟩
  have hln := encBt_len x.b HF.out.2
  rw [← hLB] at hln
  have RB := Lib.hid (rRcBytes_ok x.b A1 c1 W2 (HRR.out _ B2.out).1 HF.out.2)
  rw [← hLB] at RB
  have HLB := Lib.hid hLB
  obtain ⟨i0, hi, hi0, hi1, hi2⟩ := info_parts infoByte
  have hsz : (bs LB).size = LB.length := size_bs LB
  clear hLB
  have x0 := K2.out.cell 0
  have LO := cells_off K2.out 1 5 rfl rfl
  go_wp2_with fail
  refine RB.out.mono ?_
  rintro e w3 ⟨rfl, b3⟩
  have O3 := Lib.hid (own_below O2.out b3)
  have K3 := Lib.hid (K2.out.below b3 K2.out.lt)
  have B3 := Lib.hid (btrans B2.out b3)
  have hs3 : w1.heap.size ≤ w3.heap.size := Nat.le_trans HS2.out b3.size
  clear b3 x0 LO RB
  go_upto_region 7 with (at_builtin; refine wpList_append_full rfl (.tmp 30) (.tmp 31) 46 9 rfl w1.heap.size 5 i0 Tryz.underlying46 Tryz.underlying9 hi hi0 hi1 hi2 w1.heap.size 1 (cellsB [u]) rfl O3.out (bs LB) rfl (by omega) (by omega) (by omega) ?_; intro cap w4 o4 b4)
  have hll4 : 1 + LB.length = ([u] ++ LB).length := by rw [List.length_append]; rfl
  rw [strCells_lb, lb_bs, ← cellsB_append, hsz, hll4] at o4
  obtain ⟨L4, hL4⟩ : ∃ L, L = [u] ++ LB := ⟨_, rfl⟩
  rw [← hL4] at o4 hll4
  try rw [hsz]
  rw [hll4]
  have HL4 := Lib.hid hL4
  have R4 := Lib.hid (Reads.of_own o4)
  have K4 := Lib.hid (K3.out.below b4 K3.out.lt)
  have B4 := Lib.hid (btrans B3.out b4)
  have hl4 : L4.length ≤ 161 := by omega
  obtain ⟨A4', hA4⟩ : ∃ A, A = some (Addr.mk w3.heap.size 0 none) := ⟨_, rfl⟩
  rw [← hA4] at R4
  rw [← hA4]
  clear hL4 o4 b4 hA4 hll4 hsz hln hi hi0 hi1 hi2 hs3
  have x0 := K4.out.cell 0
  have x6 := K4.out.cell 6
  go_wp2_with fail
  refine (rFlag_any A4' L4 cap x.yes w4 R4.out (by omega)).mono ?_
  rintro e w5 ⟨A5', c5', rfl, r5, _, b5⟩
  obtain ⟨L5, hL5⟩ : ∃ L, L = L4 ++ encY x.yes := ⟨_, rfl⟩
  rw [← hL5] at r5
  rw [← hL5]
  have HL5 := Lib.hid hL5
  have R5 := Lib.hid (Reads.of_own r5)
  have B5 := Lib.hid (btrans B4.out b5)
  have K5 := Lib.hid (K4.out.below b5 K4.out.lt)
  have hl5 : L5.length ≤ 162 := by
    rw [hL5, List.length_append]
    have : (encY x.yes).length = 1 := rfl
    omega
  clear hL5 r5 b5 x0 x6
  have x6 := K5.out.cell 6
  rw [HY.out] at x6
  have x0 := K5.out.cell 0
  have x7 := K5.out.cell 7
  have hf := HQ.out HY.out
  have HZ := Lib.hid (show ∀ z ∈ ([x.nx] : List Int), 0 ≤ z ∧ z ≤ 1048577 by simp only [List.mem_cons, List.not_mem_nil, or_false]; rintro z hz; omega)
  have BA6 := Lib.hid (bal (Below.refl w5.heap.size w5) (.cells #[.int .i64 (x.nx)] 3))
  clear hf
  go_wp2_with fail
  refine (rnumbers_any A5' L5 c5' w5.heap.size [x.nx] 1 (w5.alloc (.cells #[.int .i64 (x.nx)] 3)) ((R5.out.alloc (Nat.le_refl _) _).more (by simp)) (by simp) (ints_new w5 [x.nx] 3 _ rfl) HZ.out (by simp only [List.length_cons, List.length_nil]; omega)).mono ?_
  rintro e w6 ⟨A6', c6', rfl, r6, b6⟩
  replace b6 := btrans BA6.out b6
  obtain ⟨L6, hL6⟩ : ∃ L, L = L5 ++ [x.nx].flatMap fun z => enc z.toNat := ⟨_, rfl⟩
  rw [← hL6] at r6
  rw [← hL6]
  have HL6 := Lib.hid hL6
  have R6 := Lib.hid r6
  have B6 := Lib.hid (btrans B5.out b6)
  have K6 := Lib.hid (K5.out.below b6 K5.out.lt)
  have hl6 : L6.length ≤ 165 := by
    have h9 := nums_len _ HZ.out
    rw [hL6, List.length_append]
    simp only [List.length_cons, List.length_nil] at h9 hl5 ⊢
    omega
  clear hL6 r6 b6 x0 x7
  clear HZ BA6
  clear x6
  have x0 := K6.out.cell 0
  have hfin : L6 = LF := by rw [HL6.out, HL5.out, HL4.out, HENC.out, HLB.out]; simp
  have HFIN := Lib.hid hfin
  clear hfin
  have t1 := run_string_of (P := Tryz.prog) (c := c6') Tryz.underlying46 Tryz.underlying5 Tryz.underlying9 R6.out
  go_wp2_with fail
  go_ret2
  exact ⟨by rw [← HFIN.out]; rfl, B6.out⟩
set_option maxRecDepth 100000 in
set_option maxHeartbeats 8000000 in
theorem rEnBytes_4 (x : En) (hk : x.kd = 4) (hm : mayEn x = true) (A1 D1 : Option Addr) (c1 e1 : Nat) (w : World) (hr : EnR w x A1 D1) :
    Calls Tryz.prog 12 #[(.agg #[.int .i8 x.kd, .int .i64 x.b.pid, .int .i64 x.b.ep, .int .i64 x.b.seq, .bool x.b.txn, .slice A1 x.b.rs.length c1, .bool x.yes, .int .i64 x.nx, .int .i64 x.off, .int .i64 x.row.1, .int .i64 x.row.2.1, .int .i64 x.row.2.2.1, .string x.row.2.2.2.1, .string x.row.2.2.2.2, .int .i64 x.prod.pid, .int .i64 x.prod.ep, .int .i64 x.prod.nx, .slice D1 x.prod.seen.length e1])] w (EbPost (encEn x) 0 w) := by
  have hb1 : Below w.heap.size w (w.alloc (.cells #[.int .i8 x.kd, .int .i64 x.b.pid, .int .i64 x.b.ep, .int .i64 x.b.seq, .bool x.b.txn, .slice A1 x.b.rs.length c1, .bool x.yes, .int .i64 x.nx, .int .i64 x.off, .int .i64 x.row.1, .int .i64 x.row.2.1, .int .i64 x.row.2.2.1, .string x.row.2.2.2.1, .string x.row.2.2.2.2, .int .i64 x.prod.pid, .int .i64 x.prod.ep, .int .i64 x.prod.nx, .slice D1 x.prod.seen.length e1] 32)) := bal (Below.refl _ _) _
  have MY := Lib.hid (rEnMay_any x A1 D1 c1 e1 _ (hr.up hb1))
  rw [hm] at MY
  have LC := cells_blk (Blk.new w 32 #[.int .i8 x.kd, .int .i64 x.b.pid, .int .i64 x.b.ep, .int .i64 x.b.seq, .bool x.b.txn, .slice A1 x.b.rs.length c1, .bool x.yes, .int .i64 x.nx, .int .i64 x.off, .int .i64 x.row.1, .int .i64 x.row.2.1, .int .i64 x.row.2.2.1, .string x.row.2.2.2.1, .string x.row.2.2.2.2, .int .i64 x.prod.pid, .int .i64 x.prod.ep, .int .i64 x.prod.nx, .slice D1 x.prod.seen.length e1]) rfl
  have KX := Lib.hid (Blk.new w 32 #[.int .i8 x.kd, .int .i64 x.b.pid, .int .i64 x.b.ep, .int .i64 x.b.seq, .bool x.b.txn, .slice A1 x.b.rs.length c1, .bool x.yes, .int .i64 x.nx, .int .i64 x.off, .int .i64 x.row.1, .int .i64 x.row.2.1, .int .i64 x.row.2.2.1, .string x.row.2.2.2.1, .string x.row.2.2.2.2, .int .i64 x.prod.pid, .int .i64 x.prod.ep, .int .i64 x.prod.nx, .slice D1 x.prod.seen.length e1])
  have HB := Lib.hid hb1
  have hok : okEn x = true := by unfold mayEn at hm; rw [Bool.and_eq_true] at hm; exact hm.1
  unfold okEn at hok
  rw [hk] at hok
  have hp : ((!x.yes && seqB x.nx) && prodB x.b.pid x.b.ep) = true := hok
  unfold prodB seqB at hp
  simp only [Bool.and_eq_true, decide_eq_true_eq] at hp
  have HF := Lib.hid hp
  clear hp
  have cc0 : (x.kd == 0) = false := by rw [hk]; rfl
  have cc1 : (x.kd == 1) = false := by rw [hk]; rfl
  have cc2 : (x.kd == 2) = false := by rw [hk]; rfl
  have cc3 : (x.kd == 3) = false := by rw [hk]; rfl
  have cc4 : (x.kd == 4) = true := by rw [hk]; rfl
  have cc5 : (x.kd == 5) = false := by rw [hk]; rfl
  have cc6 : (x.kd == 6) = false := by rw [hk]; rfl
  have cwk : IntKind.u8.wrap x.kd = x.kd := by rw [hk]; rfl
  obtain ⟨u, hu, hue⟩ : ∃ u : UInt8, (u.toNat : Int) = x.kd ∧ enc x.kd.toNat = [u] := ⟨4, by rw [hk]; rfl, by rw [hk]; rfl⟩
  have henc : encEn x = [u] ++ (enc x.b.pid.toNat ++ (enc x.b.ep.toNat ++ enc x.nx.toNat)) := by unfold encEn encE; rw [hue, hk]; rfl
  obtain ⟨LF, hLF⟩ : ∃ LF, LF = encEn x := ⟨_, rfl⟩
  rw [← hLF] at henc ⊢
  have HENC := Lib.hid henc
  have HU := Lib.hid hu
  have HRR := Lib.hid (fun W (h : Below w.heap.size w W) => hr.up h)
  clear hm hr hb1 hok hk hue henc hLF hu
  go_enter Tryz.func12, Tryz.ntmps12
  go_wp2_with fail
  refine MY.out.mono ?_
  rintro e w1 ⟨rfl, b1⟩
  have k1 := KX.out.below b1 KX.out.lt
  have x0 := k1.cell 0
  obtain ⟨W2, hW2⟩ : ∃ W2, W2 = w1.alloc (.cells #[.int .u8 x.kd] 5) := ⟨_, rfl⟩
  have o2 := World.ownsRow_lit (e := 5) (base := w1.heap.size) (size := 1) w1 #[.int .u8 (u.toNat : Int)] 1 (Nat.le_refl _) (by unfold maxLen; omega) rfl
  rw [HU.out, ← hW2] at o2
  have O2 := Lib.hid (show W2.ownsRow w1.heap.size 5 1 (.slice (some ⟨w1.heap.size, 0, none⟩) 1 1) 1 (cellsB [u]) from by
    have e : cellsB [u] = [.int .u8 x.kd] := by rw [← HU.out]; rfl
    rw [e]
    exact o2)
  have R2 := Lib.hid (show Reads W2 W2.heap.size 1 (some ⟨w1.heap.size, 0, none⟩) [u].length (cellsB [u]) from Reads.of_own O2.out)
  have HW2 := Lib.hid hW2
  have hl2 : [u].length ≤ 1 := Nat.le_refl _
  have K2 := Lib.hid (show Blk W2 w.heap.size 32 #[.int .i8 x.kd, .int .i64 x.b.pid, .int .i64 x.b.ep, .int .i64 x.b.seq, .bool x.b.txn, .slice A1 x.b.rs.length c1, .bool x.yes, .int .i64 x.nx, .int .i64 x.off, .int .i64 x.row.1, .int .i64 x.row.2.1, .int .i64 x.row.2.2.1, .string x.row.2.2.2.1, .string x.row.2.2.2.2, .int .i64 x.prod.pid, .int .i64 x.prod.ep, .int .i64 x.prod.nx, .slice D1 x.prod.seen.length e1] by rw [hW2]; exact k1.alloc _)
  have B2 := Lib.hid (show Below w.heap.size w W2 by rw [hW2]; exact bal (btrans HB.out b1) _)
  have HS2 := Lib.hid (show w1.heap.size ≤ W2.heap.size by rw [hW2]; simp)
  clear k1 b1 o2 hW2 LC
  go_upto_region 4 with (fail)
  rw [← HW2.out]
  clear x0
  have x0 := K2.out.cell 0
  have x1 := K2.out.cell 1
  have x2 := K2.out.cell 2
  have hf := HF.out.2
  have HZ := Lib.hid (show ∀ z ∈ ([x.b.pid, x.b.ep] : List Int), 0 ≤ z ∧ z ≤ 1048577 by simp only [List.mem_cons, List.not_mem_nil, or_false]; rintro z hz; omega)
  have BA3 := Lib.hid (bal (Below.refl W2.heap.size W2) (.cells #[.int .i64 (x.b.pid), .int .i64 (x.b.ep)] 3))
  clear hf
  go_wp2_with fail
  refine (rnumbers_any (some ⟨w1.heap.size, 0, none⟩) [u] 1 W2.heap.size [x.b.pid, x.b.ep] 2 (W2.alloc (.cells #[.int .i64 (x.b.pid), .int .i64 (x.b.ep)] 3)) ((R2.out.alloc (Nat.le_refl _) _).more (by simp)) (by simp) (ints_new W2 [x.b.pid, x.b.ep] 3 _ rfl) HZ.out (by simp only [List.length_cons, List.length_nil]; omega)).mono ?_
  rintro e w3 ⟨A3', c3', rfl, r3, b3⟩
  replace b3 := btrans BA3.out b3
  obtain ⟨L3, hL3⟩ : ∃ L, L = [u] ++ [x.b.pid, x.b.ep].flatMap fun z => enc z.toNat := ⟨_, rfl⟩
  rw [← hL3] at r3
  rw [← hL3]
  have HL3 := Lib.hid hL3
  have R3 := Lib.hid r3
  have B3 := Lib.hid (btrans B2.out b3)
  have K3 := Lib.hid (K2.out.below b3 K2.out.lt)
  have hl3 : L3.length ≤ 7 := by
    have h9 := nums_len _ HZ.out
    rw [hL3, List.length_append]
    simp only [List.length_cons, List.length_nil] at h9 hl2 ⊢
    omega
  clear hL3 r3 b3 x0 x1 x2
  clear HZ BA3
  have x0 := K3.out.cell 0
  have x7 := K3.out.cell 7
  have hf := HF.out.1.2
  have HZ := Lib.hid (show ∀ z ∈ ([x.nx] : List Int), 0 ≤ z ∧ z ≤ 1048577 by simp only [List.mem_cons, List.not_mem_nil, or_false]; rintro z hz; omega)
  have BA4 := Lib.hid (bal (Below.refl w3.heap.size w3) (.cells #[.int .i64 (x.nx)] 3))
  clear hf
  go_wp2_with fail
  refine (rnumbers_any A3' L3 c3' w3.heap.size [x.nx] 1 (w3.alloc (.cells #[.int .i64 (x.nx)] 3)) ((R3.out.alloc (Nat.le_refl _) _).more (by simp)) (by simp) (ints_new w3 [x.nx] 3 _ rfl) HZ.out (by simp only [List.length_cons, List.length_nil]; omega)).mono ?_
  rintro e w4 ⟨A4', c4', rfl, r4, b4⟩
  replace b4 := btrans BA4.out b4
  obtain ⟨L4, hL4⟩ : ∃ L, L = L3 ++ [x.nx].flatMap fun z => enc z.toNat := ⟨_, rfl⟩
  rw [← hL4] at r4
  rw [← hL4]
  have HL4 := Lib.hid hL4
  have R4 := Lib.hid r4
  have B4 := Lib.hid (btrans B3.out b4)
  have K4 := Lib.hid (K3.out.below b4 K3.out.lt)
  have hl4 : L4.length ≤ 10 := by
    have h9 := nums_len _ HZ.out
    rw [hL4, List.length_append]
    simp only [List.length_cons, List.length_nil] at h9 hl3 ⊢
    omega
  clear hL4 r4 b4 x0 x7
  clear HZ BA4
  have x0 := K4.out.cell 0
  have hfin : L4 = LF := by rw [HL4.out, HL3.out, HENC.out]; simp
  have HFIN := Lib.hid hfin
  clear hfin
  have t1 := run_string_of (P := Tryz.prog) (c := c4') Tryz.underlying46 Tryz.underlying5 Tryz.underlying9 R4.out
  go_wp2_with fail
  go_ret2
  exact ⟨by rw [← HFIN.out]; rfl, B4.out⟩
set_option maxRecDepth 100000 in
set_option maxHeartbeats 8000000 in
theorem rEnBytes_5 (x : En) (hk : x.kd = 5) (hm : mayEn x = true) (A1 D1 : Option Addr) (c1 e1 : Nat) (w : World) (hr : EnR w x A1 D1) :
    Calls Tryz.prog 12 #[(.agg #[.int .i8 x.kd, .int .i64 x.b.pid, .int .i64 x.b.ep, .int .i64 x.b.seq, .bool x.b.txn, .slice A1 x.b.rs.length c1, .bool x.yes, .int .i64 x.nx, .int .i64 x.off, .int .i64 x.row.1, .int .i64 x.row.2.1, .int .i64 x.row.2.2.1, .string x.row.2.2.2.1, .string x.row.2.2.2.2, .int .i64 x.prod.pid, .int .i64 x.prod.ep, .int .i64 x.prod.nx, .slice D1 x.prod.seen.length e1])] w (EbPost (encEn x) 0 w) := by
  have hb1 : Below w.heap.size w (w.alloc (.cells #[.int .i8 x.kd, .int .i64 x.b.pid, .int .i64 x.b.ep, .int .i64 x.b.seq, .bool x.b.txn, .slice A1 x.b.rs.length c1, .bool x.yes, .int .i64 x.nx, .int .i64 x.off, .int .i64 x.row.1, .int .i64 x.row.2.1, .int .i64 x.row.2.2.1, .string x.row.2.2.2.1, .string x.row.2.2.2.2, .int .i64 x.prod.pid, .int .i64 x.prod.ep, .int .i64 x.prod.nx, .slice D1 x.prod.seen.length e1] 32)) := bal (Below.refl _ _) _
  have MY := Lib.hid (rEnMay_any x A1 D1 c1 e1 _ (hr.up hb1))
  rw [hm] at MY
  have LC := cells_blk (Blk.new w 32 #[.int .i8 x.kd, .int .i64 x.b.pid, .int .i64 x.b.ep, .int .i64 x.b.seq, .bool x.b.txn, .slice A1 x.b.rs.length c1, .bool x.yes, .int .i64 x.nx, .int .i64 x.off, .int .i64 x.row.1, .int .i64 x.row.2.1, .int .i64 x.row.2.2.1, .string x.row.2.2.2.1, .string x.row.2.2.2.2, .int .i64 x.prod.pid, .int .i64 x.prod.ep, .int .i64 x.prod.nx, .slice D1 x.prod.seen.length e1]) rfl
  have KX := Lib.hid (Blk.new w 32 #[.int .i8 x.kd, .int .i64 x.b.pid, .int .i64 x.b.ep, .int .i64 x.b.seq, .bool x.b.txn, .slice A1 x.b.rs.length c1, .bool x.yes, .int .i64 x.nx, .int .i64 x.off, .int .i64 x.row.1, .int .i64 x.row.2.1, .int .i64 x.row.2.2.1, .string x.row.2.2.2.1, .string x.row.2.2.2.2, .int .i64 x.prod.pid, .int .i64 x.prod.ep, .int .i64 x.prod.nx, .slice D1 x.prod.seen.length e1])
  have HB := Lib.hid hb1
  have hok : okEn x = true := by unfold mayEn at hm; rw [Bool.and_eq_true] at hm; exact hm.1
  unfold okEn at hok
  rw [hk] at hok
  have hp : rowB x.row = true := hok
  unfold rowB at hp
  simp only [Bool.and_eq_true, decide_eq_true_eq] at hp
  have HF := Lib.hid hp
  clear hp
  have cc0 : (x.kd == 0) = false := by rw [hk]; rfl
  have cc1 : (x.kd == 1) = false := by rw [hk]; rfl
  have cc2 : (x.kd == 2) = false := by rw [hk]; rfl
  have cc3 : (x.kd == 3) = false := by rw [hk]; rfl
  have cc4 : (x.kd == 4) = false := by rw [hk]; rfl
  have cc5 : (x.kd == 5) = true := by rw [hk]; rfl
  have cc6 : (x.kd == 6) = false := by rw [hk]; rfl
  have cwk : IntKind.u8.wrap x.kd = x.kd := by rw [hk]; rfl
  obtain ⟨u, hu, hue⟩ : ∃ u : UInt8, (u.toNat : Int) = x.kd ∧ enc x.kd.toNat = [u] := ⟨5, by rw [hk]; rfl, by rw [hk]; rfl⟩
  have henc : encEn x = [u] ++ (enc x.row.2.1.toNat ++ (enc x.row.2.2.1.toNat ++ ((cTxt 1024).e (lb x.row.2.2.2.1) ++ (cTxt 1024).e (lb x.row.2.2.2.2)))) := by unfold encEn encE; rw [hue, hk]; rfl
  obtain ⟨LF, hLF⟩ : ∃ LF, LF = encEn x := ⟨_, rfl⟩
  rw [← hLF] at henc ⊢
  have HENC := Lib.hid henc
  have HU := Lib.hid hu
  have HRR := Lib.hid (fun W (h : Below w.heap.size w W) => hr.up h)
  clear hm hr hb1 hok hk hue henc hLF hu
  go_enter Tryz.func12, Tryz.ntmps12
  go_wp2_with fail
  refine MY.out.mono ?_
  rintro e w1 ⟨rfl, b1⟩
  have k1 := KX.out.below b1 KX.out.lt
  have x0 := k1.cell 0
  obtain ⟨W2, hW2⟩ : ∃ W2, W2 = w1.alloc (.cells #[.int .u8 x.kd] 5) := ⟨_, rfl⟩
  have o2 := World.ownsRow_lit (e := 5) (base := w1.heap.size) (size := 1) w1 #[.int .u8 (u.toNat : Int)] 1 (Nat.le_refl _) (by unfold maxLen; omega) rfl
  rw [HU.out, ← hW2] at o2
  have O2 := Lib.hid (show W2.ownsRow w1.heap.size 5 1 (.slice (some ⟨w1.heap.size, 0, none⟩) 1 1) 1 (cellsB [u]) from by
    have e : cellsB [u] = [.int .u8 x.kd] := by rw [← HU.out]; rfl
    rw [e]
    exact o2)
  have R2 := Lib.hid (show Reads W2 W2.heap.size 1 (some ⟨w1.heap.size, 0, none⟩) [u].length (cellsB [u]) from Reads.of_own O2.out)
  have HW2 := Lib.hid hW2
  have hl2 : [u].length ≤ 1 := Nat.le_refl _
  have K2 := Lib.hid (show Blk W2 w.heap.size 32 #[.int .i8 x.kd, .int .i64 x.b.pid, .int .i64 x.b.ep, .int .i64 x.b.seq, .bool x.b.txn, .slice A1 x.b.rs.length c1, .bool x.yes, .int .i64 x.nx, .int .i64 x.off, .int .i64 x.row.1, .int .i64 x.row.2.1, .int .i64 x.row.2.2.1, .string x.row.2.2.2.1, .string x.row.2.2.2.2, .int .i64 x.prod.pid, .int .i64 x.prod.ep, .int .i64 x.prod.nx, .slice D1 x.prod.seen.length e1] by rw [hW2]; exact k1.alloc _)
  have B2 := Lib.hid (show Below w.heap.size w W2 by rw [hW2]; exact bal (btrans HB.out b1) _)
  have HS2 := Lib.hid (show w1.heap.size ≤ W2.heap.size by rw [hW2]; simp)
  clear k1 b1 o2 hW2 LC
  go_upto_region 4 with (fail)
  rw [← HW2.out]
  clear x0
  have x0 := K2.out.cell 0
  have x10 := K2.out.cell 10
  have x11 := K2.out.cell 11
  have hf := HF.out
  have HZ := Lib.hid (show ∀ z ∈ ([x.row.2.1, x.row.2.2.1] : List Int), 0 ≤ z ∧ z ≤ 1048577 by simp only [List.mem_cons, List.not_mem_nil, or_false]; rintro z hz; omega)
  have BA3 := Lib.hid (bal (Below.refl W2.heap.size W2) (.cells #[.int .i64 (x.row.2.1), .int .i64 (x.row.2.2.1)] 3))
  clear hf
  go_wp2_with fail
  refine (rnumbers_any (some ⟨w1.heap.size, 0, none⟩) [u] 1 W2.heap.size [x.row.2.1, x.row.2.2.1] 2 (W2.alloc (.cells #[.int .i64 (x.row.2.1), .int .i64 (x.row.2.2.1)] 3)) ((R2.out.alloc (Nat.le_refl _) _).more (by simp)) (by simp) (ints_new W2 [x.row.2.1, x.row.2.2.1] 3 _ rfl) HZ.out (by simp only [List.length_cons, List.length_nil]; omega)).mono ?_
  rintro e w3 ⟨A3', c3', rfl, r3, b3⟩
  replace b3 := btrans BA3.out b3
  obtain ⟨L3, hL3⟩ : ∃ L, L = [u] ++ [x.row.2.1, x.row.2.2.1].flatMap fun z => enc z.toNat := ⟨_, rfl⟩
  rw [← hL3] at r3
  rw [← hL3]
  have HL3 := Lib.hid hL3
  have R3 := Lib.hid r3
  have B3 := Lib.hid (btrans B2.out b3)
  have K3 := Lib.hid (K2.out.below b3 K2.out.lt)
  have hl3 : L3.length ≤ 7 := by
    have h9 := nums_len _ HZ.out
    rw [hL3, List.length_append]
    simp only [List.length_cons, List.length_nil] at h9 hl2 ⊢
    omega
  clear hL3 r3 b3 x0 x10 x11
  clear HZ BA3
  have x0 := K3.out.cell 0
  have x12 := K3.out.cell 12
  have ht := HF.out.2.2.2.1
  go_wp2_with fail
  refine (rText_ok A3' L3 c3' x.row.2.2.2.1 w3 R3.out (by omega) (by omega)).mono ?_
  rintro e w4 ⟨A4', c4', rfl, r4, _, b4⟩
  obtain ⟨L4, hL4⟩ : ∃ L, L = L3 ++ (cTxt 1024).e (lb x.row.2.2.2.1) := ⟨_, rfl⟩
  rw [← hL4] at r4
  rw [← hL4]
  have HL4 := Lib.hid hL4
  have R4 := Lib.hid (Reads.of_own r4)
  have B4 := Lib.hid (btrans B3.out b4)
  have K4 := Lib.hid (K3.out.below b4 K3.out.lt)
  have hl4 : L4.length ≤ 24 := by
    rw [hL4, List.length_append]
    have := (encT_len x.row.2.2.2.1 ht).1
    omega
  clear hL4 r4 b4 x0 x12
  clear ht
  have x0 := K4.out.cell 0
  have x13 := K4.out.cell 13
  have ht := HF.out.2.2.2.2
  go_wp2_with fail
  refine (rText_ok A4' L4 c4' x.row.2.2.2.2 w4 R4.out (by omega) (by omega)).mono ?_
  rintro e w5 ⟨A5', c5', rfl, r5, _, b5⟩
  obtain ⟨L5, hL5⟩ : ∃ L, L = L4 ++ (cTxt 1024).e (lb x.row.2.2.2.2) := ⟨_, rfl⟩
  rw [← hL5] at r5
  rw [← hL5]
  have HL5 := Lib.hid hL5
  have R5 := Lib.hid (Reads.of_own r5)
  have B5 := Lib.hid (btrans B4.out b5)
  have K5 := Lib.hid (K4.out.below b5 K4.out.lt)
  have hl5 : L5.length ≤ 41 := by
    rw [hL5, List.length_append]
    have := (encT_len x.row.2.2.2.2 ht).1
    omega
  clear hL5 r5 b5 x0 x13
  clear ht
  have x0 := K5.out.cell 0
  have hfin : L5 = LF := by rw [HL5.out, HL4.out, HL3.out, HENC.out]; simp
  have HFIN := Lib.hid hfin
  clear hfin
  have t1 := run_string_of (P := Tryz.prog) (c := c5') Tryz.underlying46 Tryz.underlying5 Tryz.underlying9 R5.out
  go_wp2_with fail
  go_ret2
  exact ⟨by rw [← HFIN.out]; rfl, B5.out⟩
set_option maxRecDepth 100000 in
set_option maxHeartbeats 8000000 in
theorem rEnBytes_6 (x : En) (hk : x.kd = 6) (hm : mayEn x = true) (A1 D1 : Option Addr) (c1 e1 : Nat) (w : World) (hr : EnR w x A1 D1) :
    Calls Tryz.prog 12 #[(.agg #[.int .i8 x.kd, .int .i64 x.b.pid, .int .i64 x.b.ep, .int .i64 x.b.seq, .bool x.b.txn, .slice A1 x.b.rs.length c1, .bool x.yes, .int .i64 x.nx, .int .i64 x.off, .int .i64 x.row.1, .int .i64 x.row.2.1, .int .i64 x.row.2.2.1, .string x.row.2.2.2.1, .string x.row.2.2.2.2, .int .i64 x.prod.pid, .int .i64 x.prod.ep, .int .i64 x.prod.nx, .slice D1 x.prod.seen.length e1])] w (EbPost (encEn x) 0 w) := by
  have hb1 : Below w.heap.size w (w.alloc (.cells #[.int .i8 x.kd, .int .i64 x.b.pid, .int .i64 x.b.ep, .int .i64 x.b.seq, .bool x.b.txn, .slice A1 x.b.rs.length c1, .bool x.yes, .int .i64 x.nx, .int .i64 x.off, .int .i64 x.row.1, .int .i64 x.row.2.1, .int .i64 x.row.2.2.1, .string x.row.2.2.2.1, .string x.row.2.2.2.2, .int .i64 x.prod.pid, .int .i64 x.prod.ep, .int .i64 x.prod.nx, .slice D1 x.prod.seen.length e1] 32)) := bal (Below.refl _ _) _
  have MY := Lib.hid (rEnMay_any x A1 D1 c1 e1 _ (hr.up hb1))
  rw [hm] at MY
  have LC := cells_blk (Blk.new w 32 #[.int .i8 x.kd, .int .i64 x.b.pid, .int .i64 x.b.ep, .int .i64 x.b.seq, .bool x.b.txn, .slice A1 x.b.rs.length c1, .bool x.yes, .int .i64 x.nx, .int .i64 x.off, .int .i64 x.row.1, .int .i64 x.row.2.1, .int .i64 x.row.2.2.1, .string x.row.2.2.2.1, .string x.row.2.2.2.2, .int .i64 x.prod.pid, .int .i64 x.prod.ep, .int .i64 x.prod.nx, .slice D1 x.prod.seen.length e1]) rfl
  have KX := Lib.hid (Blk.new w 32 #[.int .i8 x.kd, .int .i64 x.b.pid, .int .i64 x.b.ep, .int .i64 x.b.seq, .bool x.b.txn, .slice A1 x.b.rs.length c1, .bool x.yes, .int .i64 x.nx, .int .i64 x.off, .int .i64 x.row.1, .int .i64 x.row.2.1, .int .i64 x.row.2.2.1, .string x.row.2.2.2.1, .string x.row.2.2.2.2, .int .i64 x.prod.pid, .int .i64 x.prod.ep, .int .i64 x.prod.nx, .slice D1 x.prod.seen.length e1])
  have HB := Lib.hid hb1
  have hok : okEn x = true := by unfold mayEn at hm; rw [Bool.and_eq_true] at hm; exact hm.1
  unfold okEn at hok
  rw [hk] at hok
  have hp : knownB x.prod = true := hok
  have HF := Lib.hid (known_facts hp)
  clear hp
  have cc0 : (x.kd == 0) = false := by rw [hk]; rfl
  have cc1 : (x.kd == 1) = false := by rw [hk]; rfl
  have cc2 : (x.kd == 2) = false := by rw [hk]; rfl
  have cc3 : (x.kd == 3) = false := by rw [hk]; rfl
  have cc4 : (x.kd == 4) = false := by rw [hk]; rfl
  have cc5 : (x.kd == 5) = false := by rw [hk]; rfl
  have cc6 : (x.kd == 6) = true := by rw [hk]; rfl
  have cwk : IntKind.u8.wrap x.kd = x.kd := by rw [hk]; rfl
  obtain ⟨u, hu, hue⟩ : ∃ u : UInt8, (u.toNat : Int) = x.kd ∧ enc x.kd.toNat = [u] := ⟨6, by rw [hk]; rfl, by rw [hk]; rfl⟩
  have henc : encEn x = [u] ++ (enc x.prod.pid.toNat ++ (enc x.prod.ep.toNat ++ (enc x.prod.nx.toNat ++ (enc x.prod.seen.length ++ x.prod.seen.flatMap encSn)))) := by unfold encEn encE; rw [hue, hk]; rfl
  obtain ⟨LF, hLF⟩ : ∃ LF, LF = encEn x := ⟨_, rfl⟩
  rw [← hLF] at henc ⊢
  have HENC := Lib.hid henc
  have HU := Lib.hid hu
  have HRR := Lib.hid (fun W (h : Below w.heap.size w W) => hr.up h)
  have HRD := Lib.hid (fun W (h : Below w.heap.size w W) => hr.2.1.below h)
  clear hm hr hb1 hok hk hue henc hLF hu
  go_enter Tryz.func12, Tryz.ntmps12
  go_wp2_with fail
  refine MY.out.mono ?_
  rintro e w1 ⟨rfl, b1⟩
  have k1 := KX.out.below b1 KX.out.lt
  have x0 := k1.cell 0
  obtain ⟨W2, hW2⟩ : ∃ W2, W2 = w1.alloc (.cells #[.int .u8 x.kd] 5) := ⟨_, rfl⟩
  have o2 := World.ownsRow_lit (e := 5) (base := w1.heap.size) (size := 1) w1 #[.int .u8 (u.toNat : Int)] 1 (Nat.le_refl _) (by unfold maxLen; omega) rfl
  rw [HU.out, ← hW2] at o2
  have O2 := Lib.hid (show W2.ownsRow w1.heap.size 5 1 (.slice (some ⟨w1.heap.size, 0, none⟩) 1 1) 1 (cellsB [u]) from by
    have e : cellsB [u] = [.int .u8 x.kd] := by rw [← HU.out]; rfl
    rw [e]
    exact o2)
  have R2 := Lib.hid (show Reads W2 W2.heap.size 1 (some ⟨w1.heap.size, 0, none⟩) [u].length (cellsB [u]) from Reads.of_own O2.out)
  have HW2 := Lib.hid hW2
  have hl2 : [u].length ≤ 1 := Nat.le_refl _
  have K2 := Lib.hid (show Blk W2 w.heap.size 32 #[.int .i8 x.kd, .int .i64 x.b.pid, .int .i64 x.b.ep, .int .i64 x.b.seq, .bool x.b.txn, .slice A1 x.b.rs.length c1, .bool x.yes, .int .i64 x.nx, .int .i64 x.off, .int .i64 x.row.1, .int .i64 x.row.2.1, .int .i64 x.row.2.2.1, .string x.row.2.2.2.1, .string x.row.2.2.2.2, .int .i64 x.prod.pid, .int .i64 x.prod.ep, .int .i64 x.prod.nx, .slice D1 x.prod.seen.length e1] by rw [hW2]; exact k1.alloc _)
  have B2 := Lib.hid (show Below w.heap.size w W2 by rw [hW2]; exact bal (btrans HB.out b1) _)
  have HS2 := Lib.hid (show w1.heap.size ≤ W2.heap.size by rw [hW2]; simp)
  clear k1 b1 o2 hW2 LC
  go_upto_region 4 with (fail)
  rw [← HW2.out]
  clear x0
  have x0 := K2.out.cell 0
  have x14 := K2.out.cell 14
  have x15 := K2.out.cell 15
  have x16 := K2.out.cell 16
  have x17 := K2.out.cell 17
  have hf := And.intro HF.out.1 (And.intro HF.out.2.1 (And.intro HF.out.2.2.1 HF.out.2.2.2.1))
  have HZ := Lib.hid (show ∀ z ∈ ([x.prod.pid, x.prod.ep, x.prod.nx, (x.prod.seen.length : Int)] : List Int), 0 ≤ z ∧ z ≤ 1048577 by simp only [List.mem_cons, List.not_mem_nil, or_false]; rintro z hz; omega)
  have BA3 := Lib.hid (bal (Below.refl W2.heap.size W2) (.cells #[.int .i64 (x.prod.pid), .int .i64 (x.prod.ep), .int .i64 (x.prod.nx), .int .i64 ((x.prod.seen.length : Int))] 3))
  clear hf
  go_wp2_with fail
  refine (rnumbers_any (some ⟨w1.heap.size, 0, none⟩) [u] 1 W2.heap.size [x.prod.pid, x.prod.ep, x.prod.nx, (x.prod.seen.length : Int)] 4 (W2.alloc (.cells #[.int .i64 (x.prod.pid), .int .i64 (x.prod.ep), .int .i64 (x.prod.nx), .int .i64 ((x.prod.seen.length : Int))] 3)) ((R2.out.alloc (Nat.le_refl _) _).more (by simp)) (by simp) (ints_new W2 [x.prod.pid, x.prod.ep, x.prod.nx, (x.prod.seen.length : Int)] 3 _ rfl) HZ.out (by simp only [List.length_cons, List.length_nil]; omega)).mono ?_
  rintro e w3 ⟨A3', c3', rfl, r3, b3⟩
  replace b3 := btrans BA3.out b3
  obtain ⟨L3, hL3⟩ : ∃ L, L = [u] ++ [x.prod.pid, x.prod.ep, x.prod.nx, (x.prod.seen.length : Int)].flatMap fun z => enc z.toNat := ⟨_, rfl⟩
  rw [← hL3] at r3
  rw [← hL3]
  have HL3 := Lib.hid hL3
  have R3 := Lib.hid r3
  have B3 := Lib.hid (btrans B2.out b3)
  have K3 := Lib.hid (K2.out.below b3 K2.out.lt)
  have hl3 : L3.length ≤ 13 := by
    have h9 := nums_len _ HZ.out
    rw [hL3, List.length_append]
    simp only [List.length_cons, List.length_nil] at h9 hl2 ⊢
    omega
  clear hL3 r3 b3 x0 x14 x15 x16 x17
  clear HZ BA3
  have x0 := K3.out.cell 0
  have hlen4 := HF.out.2.2.2.1
  go_wp2_with fail
  go_loopw [4, 7] (fun v y wr => ∃ (k : Nat) (A : Option Addr) (c : Nat) (L : List UInt8), k ≤ x.prod.seen.length ∧ y = .int .i64 k ∧ L = L3 ++ (x.prod.seen.take k).flatMap encSn ∧ v = .slice A L.length c ∧ Reads wr wr.heap.size 1 A L.length (cellsB L) ∧ Below w.heap.size w wr ∧ Blk wr w.heap.size 32 #[.int .i8 x.kd, .int .i64 x.b.pid, .int .i64 x.b.ep, .int .i64 x.b.seq, .bool x.b.txn, .slice A1 x.b.rs.length c1, .bool x.yes, .int .i64 x.nx, .int .i64 x.off, .int .i64 x.row.1, .int .i64 x.row.2.1, .int .i64 x.row.2.2.1, .string x.row.2.2.2.1, .string x.row.2.2.2.2, .int .i64 x.prod.pid, .int .i64 x.prod.ep, .int .i64 x.prod.nx, .slice D1 x.prod.seen.length e1]) (fun _ y _ => x.prod.seen.length - (intOf y).toNat)
  case atStart => exact ⟨0, A3', c3', L3, Nat.zero_le _, rfl, by simp, rfl, R3.out, B3.out, K3.out⟩
  case round =>
    obtain ⟨k, A, c, L, hk, rfl, hL, rfl, hrd, hbel, hblk⟩ := hrel
    have RD := Lib.hid hrd
    have BEL := Lib.hid hbel
    have HL := Lib.hid hL
    have KB := Lib.hid hblk
    have x17 := hblk.cell 17
    have hlb := hblk.lt
    have hle := encSns_len (x.prod.seen.take k) (fun y hy => HF.out.2.2.2.2 y (List.mem_of_mem_take hy))
    rw [List.length_take] at hle
    have hll : L.length ≤ 100 := by rw [hL, List.length_append]; omega
    clear hrd hL hblk hle x0
    by_cases hlt : k < x.prod.seen.length
    · have d1 : decide ((k : Int) < (x.prod.seen.length : Int)) = true := by simp; omega
      obtain ⟨r, hx⟩ : ∃ z, x.prod.seen[k]? = some z := ⟨_, List.getElem?_eq_getElem hlt⟩
      have HV := Lib.hid (HF.out.2.2.2.2 r (List.mem_of_getElem? hx))
      have HTK := Lib.hid (encSns_take x.prod.seen k r hx)
      obtain ⟨b1, o1, hD, hb1, hc1⟩ := (HRD.out _ hbel).plain3 (by omega)
      obtain ⟨g1, g2, g3⟩ := hc1 k _ hx
      have LS := load_sn g1 g2 g3
      have i1 : (0 : Int) ≤ (k : Int) := by omega
      have i2 : (k : Int) < (x.prod.seen.length : Int) := by omega
      obtain ⟨v1, v2, v3⟩ := HV.out
      have cw : IntKind.i64.wrap (r.2.2 + 1) = r.2.2 + 1 := IntWalk.i64_in _ (by omega)
      have HZ := Lib.hid (show ∀ z ∈ ([r.1, r.2.1, r.2.2 + 1] : List Int), 0 ≤ z ∧ z ≤ 1048577 by simp only [List.mem_cons, List.not_mem_nil, or_false]; rintro z hz; omega)
      have BA := Lib.hid (bal (bal (Below.refl wr.heap.size wr) (.cells #[.int .i64 r.1, .int .i64 r.2.1, .int .i64 r.2.2] 73)) (.cells #[.int .i64 r.1, .int .i64 r.2.1, .int .i64 (r.2.2 + 1)] 3))
      have M1 := Lib.hid (rnumbers_any A L c (wr.heap.size + 1) [r.1, r.2.1, r.2.2 + 1] 3 ((wr.alloc (.cells #[.int .i64 r.1, .int .i64 r.2.1, .int .i64 r.2.2] 73)).alloc (.cells #[.int .i64 r.1, .int .i64 r.2.1, .int .i64 (r.2.2 + 1)] 3)) (((RD.out.alloc (Nat.le_refl _) _).alloc (by simp) _).more (by simp; omega)) (by simp) (ints_new (wr.alloc (.cells #[.int .i64 r.1, .int .i64 r.2.1, .int .i64 r.2.2] 73)) [r.1, r.2.1, r.2.2 + 1] 3 _ (by simp)) HZ.out (by simp only [List.length_cons, List.length_nil]; omega))
      clear hc1 hx g1 g2 g3 hbel v1 v2 v3
      subst hD
      go_wp2_with fail
      refine M1.out.mono ?_
      rintro e w4 ⟨A4', c4', rfl, r4, b4⟩
      obtain ⟨L4, hL4⟩ : ∃ L', L' = L ++ [r.1, r.2.1, r.2.2 + 1].flatMap fun z => enc z.toNat := ⟨_, rfl⟩
      rw [← hL4] at r4
      rw [← hL4]
      have hfin : L4 = L3 ++ (x.prod.seen.take (k + 1)).flatMap encSn := by
        have e : encSn r = [r.1, r.2.1, r.2.2 + 1].flatMap fun z => enc z.toNat := by unfold encSn; simp
        rw [HTK.out, ← List.append_assoc, ← HL.out, hL4, e]
      have HFIN := Lib.hid hfin
      have R4 := Lib.hid r4
      have b5 := btrans BA.out b4
      have B5 := Lib.hid (btrans BEL.out b5)
      have K5 := Lib.hid (KB.out.below b5 KB.out.lt)
      clear hfin hL4 r4 b4 b5 LS
      go_wp2_with fail
      go_roundw
      case rel => exact ⟨k + 1, A4', c4', L4, by omega, by go_num, HFIN.out, rfl, R4.out, B5.out, K5.out⟩
      case measure => simp [intOf]; omega
    · obtain rfl : k = x.prod.seen.length := by omega
      have d1 : decide ((x.prod.seen.length : Int) < (x.prod.seen.length : Int)) = false := by simp
      have hfin : L = LF := by rw [HL.out, List.take_length, HL3.out, HENC.out]; simp
      have HFIN := Lib.hid hfin
      clear hfin hbel
      have t1 := run_string_of (P := Tryz.prog) (c := c) Tryz.underlying46 Tryz.underlying5 Tryz.underlying9 RD.out
      go_wp2_with fail
      go_ret2
      exact ⟨by rw [← HFIN.out]; rfl, BEL.out⟩
end
theorem rEnBytes_any (x : En) (hm : mayEn x = true) (A1 D1 : Option Addr) (c1 e1 : Nat) (w : World) (hr : EnR w x A1 D1) :
    Calls Tryz.prog 12 #[(.agg #[.int .i8 x.kd, .int .i64 x.b.pid, .int .i64 x.b.ep, .int .i64 x.b.seq, .bool x.b.txn, .slice A1 x.b.rs.length c1, .bool x.yes, .int .i64 x.nx, .int .i64 x.off, .int .i64 x.row.1, .int .i64 x.row.2.1, .int .i64 x.row.2.2.1, .string x.row.2.2.2.1, .string x.row.2.2.2.2, .int .i64 x.prod.pid, .int .i64 x.prod.ep, .int .i64 x.prod.nx, .slice D1 x.prod.seen.length e1])] w (EbPost (encEn x) 0 w) := by
  by_cases h0 : x.kd = 0
  · exact rEnBytes_0 x h0 hm A1 D1 c1 e1 w hr
  by_cases h1 : x.kd = 1
  · exact rEnBytes_1 x h1 hm A1 D1 c1 e1 w hr
  by_cases h2 : x.kd = 2
  · exact rEnBytes_2 x h2 hm A1 D1 c1 e1 w hr
  by_cases h3 : x.kd = 3
  · have hyy : x.yes = false ∨ x.yes = true := by cases x.yes <;> simp
    rcases hyy with hy | hy
    · exact rEnBytes_3f x h3 hy hm A1 D1 c1 e1 w hr
    · exact rEnBytes_3t x h3 hy hm A1 D1 c1 e1 w hr
  by_cases h4 : x.kd = 4
  · exact rEnBytes_4 x h4 hm A1 D1 c1 e1 w hr
  by_cases h5 : x.kd = 5
  · exact rEnBytes_5 x h5 hm A1 D1 c1 e1 w hr
  by_cases h6 : x.kd = 6
  · exact rEnBytes_6 x h6 hm A1 D1 c1 e1 w hr
  · unfold mayEn okEn at hm
    rw [if_neg h3, if_neg h0, if_neg h4, if_neg h1, if_neg h2, if_neg h5, if_neg h6] at hm
    cases hm
end Go.Proofs.YtckdecodpjfcnaaGreatDoor
