/-
  Layer 19, the document's: Bytes of an entry.
-/
import Derived.Test.YtbpkckahonmpkaaGreatDoorMlPutsProofP11
import Derived.Deep.RegionHeld3
import Derived.Deep.LoopGhost
set_option linter.unusedVariables false
set_option linter.unusedSimpArgs false
namespace Go.Proofs.YtbpkckahonmpkaaGreatDoor
open Go.RowKit

/-- What a function leaves that hands back bytes. -/
def PuPost (L : List UInt8) (w : World) (e : Ending) (w' : World) : Prop := ∃ A c, e = .returned (.slice A L.length c) ∧ Reads w' w'.heap.size 1 A L.length (cellsB L) ∧ Below w.heap.size w w'
theorem puts_len : ∀ (m : List Int), (∀ z ∈ m, 0 ≤ z ∧ z ≤ 1048577) → (m.flatMap fun z => enc z.toNat).length ≤ 3 * m.length
  | [], _ => Nat.le_refl _
  | z :: m, hm => by
    rw [List.flatMap_cons, List.length_append, List.length_cons]
    have h1 := enc_len3x z.toNat (by have := hm z (List.mem_cons_self ..); omega)
    have h2 := puts_len m fun y hy => hm y (List.mem_cons_of_mem _ hy)
    omega
set_option maxRecDepth 100000 in
set_option maxHeartbeats 2000000 in
theorem rput_any (A : Option Addr) (l : List UInt8) (c b : Nat) (ns : List Int) (cz : Nat) (w : World) (hr : Reads w w.heap.size 1 A l.length (cellsB l)) (hb : b < w.heap.size) (hc : ∀ j z, ns[j]? = some z → w.cell? ⟨b, j, none⟩ = some (.int .i64 z)) (hn : ∀ z ∈ ns, 0 ≤ z ∧ z ≤ 1048577) (hl : l.length + 3 * ns.length ≤ 20000) :
    Calls Tryz.prog 41 #[.slice A l.length c, .slice (some ⟨b, 0, none⟩) ns.length cz] w (PuPost (l ++ ns.flatMap fun z => enc z.toNat) w) := by
  have HC := Lib.hid hc
  have HN := Lib.hid hn
  have HR := Lib.hid hr
  have hlen : ∀ k, (l ++ (ns.take k).flatMap fun z => enc z.toNat).length ≤ l.length + 3 * ns.length := fun k => by
    rw [List.length_append]
    have := puts_len (ns.take k) (fun z hz => hn z (List.mem_of_mem_take hz))
    have h2 : (ns.take k).length ≤ ns.length := by rw [List.length_take]; omega
    omega
  have HLEN := Lib.hid hlen
  clear hr hc hn hlen
  go_enter Tryz.func41, Tryz.ntmps41
  go_wp2_with fail
  go_loopw [0, 5] (fun v x wr => ∃ (k : Nat) (A : Option Addr) (c : Nat) (L : List UInt8), k ≤ ns.length ∧ x = .int .i64 k ∧ L = l ++ (ns.take k).flatMap (fun z => enc z.toNat) ∧ v = .slice A L.length c ∧ Reads wr wr.heap.size 1 A L.length (cellsB L) ∧ Below w.heap.size w wr) (fun _ x _ => ns.length - (intOf x).toNat)
  case atStart => exact ⟨0, A, c, l, Nat.zero_le _, rfl, by simp, rfl, HR.out, Below.refl _ _⟩
  case round =>
    obtain ⟨k, A, c, L, hk, rfl, hL, rfl, hrd, hbel⟩ := hrel
    have RD := Lib.hid hrd
    have BEL := Lib.hid hbel
    have HL := Lib.hid hL
    have hll : L.length ≤ 20000 := by have := HLEN.out k; rw [hL]; omega
    clear hrd hL
    by_cases hlt : k < ns.length
    · have d1 : decide ((k : Int) < (ns.length : Int)) = true := by simp; omega
      have i1 : (0 : Int) ≤ (k : Int) := by omega
      have i2 : (k : Int) < (ns.length : Int) := by omega
      obtain ⟨z, hz⟩ : ∃ z, ns[k]? = some z := ⟨_, List.getElem?_eq_getElem hlt⟩
      have hzr := HN.out z (List.mem_of_getElem? hz)
      have y0 : wr.cell? ⟨b, k, none⟩ = some (.int .i64 z) := (hbel.cell (p := ⟨b, k, none⟩) hb).trans (HC.out k z hz)
      obtain ⟨m, rfl⟩ := Int.eq_ofNat_of_zero_le hzr.1
      have HTK := Lib.hid (show (ns.take (k + 1)).flatMap (fun z => enc z.toNat) = (ns.take k).flatMap (fun z => enc z.toNat) ++ enc m by rw [List.take_add_one, hz]; simp)
      have NM := Lib.hid (rNumber_ok A L c m wr RD.out (by omega) (by unfold maxNum; omega))
      clear hz hbel
      go_wp2_with fail
      refine NM.out.mono ?_
      rintro e w1 ⟨A1, c1, rfl, r1, _, b1⟩
      obtain ⟨L1, hL1⟩ : ∃ L1, L1 = L ++ enc m := ⟨_, rfl⟩
      rw [← hL1] at r1
      rw [← hL1]
      have HL1 := Lib.hid hL1
      have R1 := Lib.hid r1
      have B1 := Lib.hid (btrans BEL.out b1)
      clear hL1 r1 b1
      go_wp2_with fail
      go_roundw
      case rel => exact ⟨k + 1, A1, c1, L1, by omega, by go_num, by rw [HTK.out, ← List.append_assoc, ← HL.out]; exact HL1.out, rfl, R1.out, B1.out⟩
      case measure => simp [intOf]; omega
    · obtain rfl : k = ns.length := by omega
      have d1 : decide ((ns.length : Int) < (ns.length : Int)) = false := by simp
      have hfin : L = l ++ ns.flatMap fun z => enc z.toNat := by rw [HL.out, List.take_length]
      have HFIN := Lib.hid hfin
      clear hfin hbel
      go_wp2_with fail
      go_ret
      exact ⟨A, c, by rw [← HFIN.out]; rfl, by rw [← HFIN.out]; exact RD.out, BEL.out⟩

theorem pn_iff (p : Pd) : pendB p = true ↔ 0 ≤ p.1 ∧ p.1 < 2 ∧ 0 ≤ p.2.1 ∧ p.2.1 < 3 ∧ 0 ≤ p.2.2 ∧ p.2.2 ≤ 1048576 := by
  unfold pendB partB
  simp only [Bool.and_eq_true, decide_eq_true_eq, and_assoc]
theorem ints_newM (w : World) (ns : List Int) (t : TypeId) (g : Nat) (hg : w.heap.size = g) : ∀ j z, ns[j]? = some z → (w.alloc (.cells (ns.map (Value.int .i64)).toArray t)).cell? ⟨g, j, none⟩ = some (.int .i64 z) := fun j z hz => by
  rw [(bk_new w t (ns.map (Value.int .i64)).toArray hg).cell j]
  simp [hz]
section
attribute [-go_sem] loadCells storeVar
set_option maxRecDepth 100000 in
set_option maxHeartbeats 4000000 in
theorem rMtBytes_no (m : Mt) (A D : Option Addr) (c e : Nat) (w : World) (h : CoR w w.heap.size m.c A D) (h8 : -128 ≤ m.c.st) (h9 : m.c.st ≤ 127) (hm : mayM m = false) :
    Calls Tryz.prog 17 #[.agg (mtX m A D c e)] w (MbPost ByteArray.empty 2 w) := by
  obtain ⟨W0, hW0⟩ : ∃ W0, W0 = w.alloc (.cells (mtX m A D c e) 42) := ⟨_, rfl⟩
  have B0 : Below w.heap.size w W0 := by rw [hW0]; exact bal (Below.refl _ _) _
  have K0 : Blk W0 w.heap.size 42 (mtX m A D c e) := by rw [hW0]; exact Blk.new w 42 _
  have l0 := mt_load (P := Tryz.prog) K0
  have MY := Lib.hid (rMayM_all m A D c e W0.heap.size W0 (h.up B0) (Nat.le_refl _) h8 h9)
  rw [hm] at MY
  have HB := Lib.hid B0
  have HW := Lib.hid hW0
  clear hW0 B0 K0 h hm
  go_enter Tryz.func17, Tryz.ntmps17
  go_upto_region 1 with (fail)
  rw [← HW.out]
  go_wp2_with fail
  refine MY.out.mono ?_
  rintro e w1 ⟨rfl, b1⟩
  have B1 := Lib.hid (HB.out.trans (b1.mono HB.out.size))
  clear b1 l0
  go_wp2_with fail
  go_ret2
  exact ⟨rfl, B1.out⟩
set_option maxRecDepth 100000 in
set_option maxHeartbeats 8000000 in
theorem rMtBytes_0 (m : Mt) (A D : Option Addr) (c e : Nat) (w : World) (hk : m.kd = 0) (h : CoR w w.heap.size m.c A D) (h8 : -128 ≤ m.c.st) (h9 : m.c.st ≤ 127) (hm : mayM m = true) (ht : 0 ≤ m.tid ∧ m.tid ≤ 1048576)  :
    Calls Tryz.prog 17 #[.agg (mtX m A D c e)] w (MbPost (bs (encM m)) 0 w) := by
  obtain ⟨W0, hW0⟩ : ∃ W0, W0 = w.alloc (.cells (mtX m A D c e) 42) := ⟨_, rfl⟩
  have B0 : Below w.heap.size w W0 := by rw [hW0]; exact bal (Below.refl _ _) _
  have K0 : Blk W0 w.heap.size 42 (mtX m A D c e) := by rw [hW0]; exact Blk.new w 42 _
  have l0 := mt_load (P := Tryz.prog) K0
  have MY := Lib.hid (rMayM_all m A D c e W0.heap.size W0 (h.up B0) (Nat.le_refl _) h8 h9)
  rw [hm] at MY
  have HB := Lib.hid B0
  have HK := Lib.hid K0
  have HW := Lib.hid hW0
  have HT := Lib.hid ht
  have HD := Lib.hid h.2.1
  have HKK := Lib.hid hk
  clear hW0 B0 K0 h hm ht hk h8 h9 
  go_enter Tryz.func17, Tryz.ntmps17
  go_upto_region 1 with (fail)
  rw [← HW.out]
  go_wp2_with fail
  refine MY.out.mono ?_
  rintro e w1 ⟨rfl, b1⟩
  have B1 := Lib.hid (HB.out.trans (b1.mono HB.out.size))
  have KX1 := Lib.hid (HK.out.below b1 HK.out.lt)
  have R1 := Lib.hid (show Reads w1 w1.heap.size 1 none ([] : List UInt8).length (cellsB []) from Reads.none_)
  have HL1 := Lib.hid (show ([] : List UInt8).length ≤ 0 from Nat.le_refl _)
  clear b1 l0
  have x0 : w1.cell? ⟨w.heap.size, 0, none⟩ = some (.int .i8 0) := by rw [← HKK.out]; exact mt_cell KX1.out (j := 0) rfl
  have HZ := Lib.hid (show ∀ z ∈ ([0] : List Int), 0 ≤ z ∧ z ≤ 1048577 by have := HKK.out; simp only [List.mem_cons, List.not_mem_nil, or_false]; rintro z hz; omega)
  have BA := Lib.hid (bal (Below.refl w1.heap.size w1) (.cells #[.int .i64 (0)] 3))
  have PU := Lib.hid (rput_any none [] 0 w1.heap.size [0] 1 (w1.alloc (.cells #[.int .i64 (0)] 3)) ((R1.out.alloc (Nat.le_refl _) _).more (by simp)) (by simp) (ints_newM w1 [0] 3 _ rfl) HZ.out (by have := HL1.out; (try simp only [List.length_cons, List.length_nil] at this ⊢); (try simp only [List.length_cons, List.length_nil]); omega))
  go_wp2_with fail
  refine PU.out.mono ?_
  rintro e w2 ⟨A2, c2, rfl, r, b⟩
  obtain ⟨L2, hL2⟩ : ∃ L, L = [] ++ ([0] : List Int).flatMap fun z => enc z.toNat := ⟨_, rfl⟩
  rw [← hL2] at r ⊢
  have b' := BA.out.trans (b.mono BA.out.size)
  have B2 := Lib.hid (B1.out.trans (b'.mono B1.out.size))
  have KX2 := Lib.hid (KX1.out.below b' KX1.out.lt)
  have R2 := Lib.hid r
  have HL2 := Lib.hid (show L2.length ≤ 3 by rw [hL2, List.length_append]; have := puts_len [0] HZ.out; have := HL1.out; (try simp only [List.length_cons, List.length_nil] at this); (try simp only [List.length_cons, List.length_nil] at *); omega)
  have HQ2 := Lib.hid hL2
  clear r b b' hL2 PU HZ BA x0
  have xk : w2.cell? ⟨w.heap.size, 0, none⟩ = some (.int .i8 0) := by rw [← HKK.out]; exact mt_cell KX2.out (j := 0) rfl
  have t1 := run_string_of (P := Tryz.prog) (src := 75) (dst := 9) (c := c2) Tryz.underlying75 Tryz.underlying5 Tryz.underlying9 R2.out
  have HE := Lib.hid (show encM m = L2 from by
    have he : encMb m = [] := by unfold encMb; rw [HKK.out]; rfl
    unfold encM
    rw [HKK.out, he, HQ2.out]
    simp only [List.flatMap_cons, List.flatMap_nil, List.append_nil, List.nil_append, List.append_assoc])
  go_wp2_with fail
  go_ret2
  exact ⟨by rw [HE.out]; rfl, B2.out⟩
set_option maxRecDepth 100000 in
set_option maxHeartbeats 8000000 in
theorem rMtBytes_1 (m : Mt) (A D : Option Addr) (c e : Nat) (w : World) (hk : m.kd = 1) (h : CoR w w.heap.size m.c A D) (h8 : -128 ≤ m.c.st) (h9 : m.c.st ≤ 127) (hm : mayM m = true) (ht : 0 ≤ m.tid ∧ m.tid ≤ 1048576) (hn : 0 ≤ m.tm ∧ m.tm ≤ 1048576) :
    Calls Tryz.prog 17 #[.agg (mtX m A D c e)] w (MbPost (bs (encM m)) 0 w) := by
  obtain ⟨W0, hW0⟩ : ∃ W0, W0 = w.alloc (.cells (mtX m A D c e) 42) := ⟨_, rfl⟩
  have B0 : Below w.heap.size w W0 := by rw [hW0]; exact bal (Below.refl _ _) _
  have K0 : Blk W0 w.heap.size 42 (mtX m A D c e) := by rw [hW0]; exact Blk.new w 42 _
  have l0 := mt_load (P := Tryz.prog) K0
  have MY := Lib.hid (rMayM_all m A D c e W0.heap.size W0 (h.up B0) (Nat.le_refl _) h8 h9)
  rw [hm] at MY
  have HB := Lib.hid B0
  have HK := Lib.hid K0
  have HW := Lib.hid hW0
  have HT := Lib.hid ht
  have HD := Lib.hid h.2.1
  have HKK := Lib.hid hk
  have HN := Lib.hid hn
  clear hW0 B0 K0 h hm ht hk h8 h9 hn
  go_enter Tryz.func17, Tryz.ntmps17
  go_upto_region 1 with (fail)
  rw [← HW.out]
  go_wp2_with fail
  refine MY.out.mono ?_
  rintro e w1 ⟨rfl, b1⟩
  have B1 := Lib.hid (HB.out.trans (b1.mono HB.out.size))
  have KX1 := Lib.hid (HK.out.below b1 HK.out.lt)
  have R1 := Lib.hid (show Reads w1 w1.heap.size 1 none ([] : List UInt8).length (cellsB []) from Reads.none_)
  have HL1 := Lib.hid (show ([] : List UInt8).length ≤ 0 from Nat.le_refl _)
  clear b1 l0
  have x0 : w1.cell? ⟨w.heap.size, 0, none⟩ = some (.int .i8 1) := by rw [← HKK.out]; exact mt_cell KX1.out (j := 0) rfl
  have HZ := Lib.hid (show ∀ z ∈ ([1] : List Int), 0 ≤ z ∧ z ≤ 1048577 by have := HKK.out; simp only [List.mem_cons, List.not_mem_nil, or_false]; rintro z hz; omega)
  have BA := Lib.hid (bal (Below.refl w1.heap.size w1) (.cells #[.int .i64 (1)] 3))
  have PU := Lib.hid (rput_any none [] 0 w1.heap.size [1] 1 (w1.alloc (.cells #[.int .i64 (1)] 3)) ((R1.out.alloc (Nat.le_refl _) _).more (by simp)) (by simp) (ints_newM w1 [1] 3 _ rfl) HZ.out (by have := HL1.out; (try simp only [List.length_cons, List.length_nil] at this ⊢); (try simp only [List.length_cons, List.length_nil]); omega))
  go_wp2_with fail
  refine PU.out.mono ?_
  rintro e w2 ⟨A2, c2, rfl, r, b⟩
  obtain ⟨L2, hL2⟩ : ∃ L, L = [] ++ ([1] : List Int).flatMap fun z => enc z.toNat := ⟨_, rfl⟩
  rw [← hL2] at r ⊢
  have b' := BA.out.trans (b.mono BA.out.size)
  have B2 := Lib.hid (B1.out.trans (b'.mono B1.out.size))
  have KX2 := Lib.hid (KX1.out.below b' KX1.out.lt)
  have R2 := Lib.hid r
  have HL2 := Lib.hid (show L2.length ≤ 3 by rw [hL2, List.length_append]; have := puts_len [1] HZ.out; have := HL1.out; (try simp only [List.length_cons, List.length_nil] at this); (try simp only [List.length_cons, List.length_nil] at *); omega)
  have HQ2 := Lib.hid hL2
  clear r b b' hL2 PU HZ BA x0
  have xk : w2.cell? ⟨w.heap.size, 0, none⟩ = some (.int .i8 1) := by rw [← HKK.out]; exact mt_cell KX2.out (j := 0) rfl
  have x0 : w2.cell? ⟨w.heap.size, 1, none⟩ = some (.int .i64 m.tid) := mt_cell KX2.out (j := 1) rfl
  have HZ := Lib.hid (show ∀ z ∈ ([m.tid] : List Int), 0 ≤ z ∧ z ≤ 1048577 by have := HT.out; simp only [List.mem_cons, List.not_mem_nil, or_false]; rintro z hz; omega)
  have BA := Lib.hid (bal (Below.refl w2.heap.size w2) (.cells #[.int .i64 (m.tid)] 3))
  have PU := Lib.hid (rput_any A2 L2 c2 w2.heap.size [m.tid] 1 (w2.alloc (.cells #[.int .i64 (m.tid)] 3)) ((R2.out.alloc (Nat.le_refl _) _).more (by simp)) (by simp) (ints_newM w2 [m.tid] 3 _ rfl) HZ.out (by have := HL2.out; (try simp only [List.length_cons, List.length_nil] at this ⊢); (try simp only [List.length_cons, List.length_nil]); omega))
  go_wp2_with fail
  refine PU.out.mono ?_
  rintro e w3 ⟨A3, c3, rfl, r, b⟩
  obtain ⟨L3, hL3⟩ : ∃ L, L = L2 ++ ([m.tid] : List Int).flatMap fun z => enc z.toNat := ⟨_, rfl⟩
  rw [← hL3] at r ⊢
  have b' := BA.out.trans (b.mono BA.out.size)
  have B3 := Lib.hid (B2.out.trans (b'.mono B2.out.size))
  have KX3 := Lib.hid (KX2.out.below b' KX2.out.lt)
  have R3 := Lib.hid r
  have HL3 := Lib.hid (show L3.length ≤ 6 by rw [hL3, List.length_append]; have := puts_len [m.tid] HZ.out; have := HL2.out; (try simp only [List.length_cons, List.length_nil] at this); (try simp only [List.length_cons, List.length_nil] at *); omega)
  have HQ3 := Lib.hid hL3
  clear r b b' hL3 PU HZ BA x0
  have xk : w3.cell? ⟨w.heap.size, 0, none⟩ = some (.int .i8 1) := by rw [← HKK.out]; exact mt_cell KX3.out (j := 0) rfl
  have x0 : w3.cell? ⟨w.heap.size, 2, none⟩ = some (.int .i64 m.tm) := mt_cell KX3.out (j := 2) rfl
  have HZ := Lib.hid (show ∀ z ∈ ([m.tm] : List Int), 0 ≤ z ∧ z ≤ 1048577 by have := HN.out; simp only [List.mem_cons, List.not_mem_nil, or_false]; rintro z hz; omega)
  have BA := Lib.hid (bal (Below.refl w3.heap.size w3) (.cells #[.int .i64 (m.tm)] 3))
  have PU := Lib.hid (rput_any A3 L3 c3 w3.heap.size [m.tm] 1 (w3.alloc (.cells #[.int .i64 (m.tm)] 3)) ((R3.out.alloc (Nat.le_refl _) _).more (by simp)) (by simp) (ints_newM w3 [m.tm] 3 _ rfl) HZ.out (by have := HL3.out; (try simp only [List.length_cons, List.length_nil] at this ⊢); (try simp only [List.length_cons, List.length_nil]); omega))
  go_wp2_with fail
  refine PU.out.mono ?_
  rintro e w4 ⟨A4, c4, rfl, r, b⟩
  obtain ⟨L4, hL4⟩ : ∃ L, L = L3 ++ ([m.tm] : List Int).flatMap fun z => enc z.toNat := ⟨_, rfl⟩
  rw [← hL4] at r ⊢
  have b' := BA.out.trans (b.mono BA.out.size)
  have B4 := Lib.hid (B3.out.trans (b'.mono B3.out.size))
  have KX4 := Lib.hid (KX3.out.below b' KX3.out.lt)
  have R4 := Lib.hid r
  have HL4 := Lib.hid (show L4.length ≤ 9 by rw [hL4, List.length_append]; have := puts_len [m.tm] HZ.out; have := HL3.out; (try simp only [List.length_cons, List.length_nil] at this); (try simp only [List.length_cons, List.length_nil] at *); omega)
  have HQ4 := Lib.hid hL4
  clear r b b' hL4 PU HZ BA x0
  have xk : w4.cell? ⟨w.heap.size, 0, none⟩ = some (.int .i8 1) := by rw [← HKK.out]; exact mt_cell KX4.out (j := 0) rfl
  have t1 := run_string_of (P := Tryz.prog) (src := 75) (dst := 9) (c := c4) Tryz.underlying75 Tryz.underlying5 Tryz.underlying9 R4.out
  have HE := Lib.hid (show encM m = L4 from by
    have he : encMb m = enc m.tid.toNat ++ (enc (m.tm).toNat) := by unfold encMb; rw [HKK.out]; rfl
    unfold encM
    rw [HKK.out, he, HQ4.out, HQ3.out, HQ2.out]
    simp only [List.flatMap_cons, List.flatMap_nil, List.append_nil, List.nil_append, List.append_assoc])
  go_wp2_with fail
  go_ret2
  exact ⟨by rw [HE.out]; rfl, B4.out⟩
set_option maxRecDepth 100000 in
set_option maxHeartbeats 8000000 in
theorem rMtBytes_2 (m : Mt) (A D : Option Addr) (c e : Nat) (w : World) (hk : m.kd = 2) (h : CoR w w.heap.size m.c A D) (h8 : -128 ≤ m.c.st) (h9 : m.c.st ≤ 127) (hm : mayM m = true) (ht : 0 ≤ m.tid ∧ m.tid ≤ 1048576) (hn : (0 ≤ m.p.1 ∧ m.p.1 ≤ 1) ∧ (0 ≤ m.p.2.1 ∧ m.p.2.1 ≤ 2) ∧ 0 ≤ m.p.2.2 ∧ m.p.2.2 ≤ 1048576) :
    Calls Tryz.prog 17 #[.agg (mtX m A D c e)] w (MbPost (bs (encM m)) 0 w) := by
  obtain ⟨W0, hW0⟩ : ∃ W0, W0 = w.alloc (.cells (mtX m A D c e) 42) := ⟨_, rfl⟩
  have B0 : Below w.heap.size w W0 := by rw [hW0]; exact bal (Below.refl _ _) _
  have K0 : Blk W0 w.heap.size 42 (mtX m A D c e) := by rw [hW0]; exact Blk.new w 42 _
  have l0 := mt_load (P := Tryz.prog) K0
  have MY := Lib.hid (rMayM_all m A D c e W0.heap.size W0 (h.up B0) (Nat.le_refl _) h8 h9)
  rw [hm] at MY
  have HB := Lib.hid B0
  have HK := Lib.hid K0
  have HW := Lib.hid hW0
  have HT := Lib.hid ht
  have HD := Lib.hid h.2.1
  have HKK := Lib.hid hk
  have HN := Lib.hid hn
  clear hW0 B0 K0 h hm ht hk h8 h9 hn
  go_enter Tryz.func17, Tryz.ntmps17
  go_upto_region 1 with (fail)
  rw [← HW.out]
  go_wp2_with fail
  refine MY.out.mono ?_
  rintro e w1 ⟨rfl, b1⟩
  have B1 := Lib.hid (HB.out.trans (b1.mono HB.out.size))
  have KX1 := Lib.hid (HK.out.below b1 HK.out.lt)
  have R1 := Lib.hid (show Reads w1 w1.heap.size 1 none ([] : List UInt8).length (cellsB []) from Reads.none_)
  have HL1 := Lib.hid (show ([] : List UInt8).length ≤ 0 from Nat.le_refl _)
  clear b1 l0
  have x0 : w1.cell? ⟨w.heap.size, 0, none⟩ = some (.int .i8 2) := by rw [← HKK.out]; exact mt_cell KX1.out (j := 0) rfl
  have HZ := Lib.hid (show ∀ z ∈ ([2] : List Int), 0 ≤ z ∧ z ≤ 1048577 by have := HKK.out; simp only [List.mem_cons, List.not_mem_nil, or_false]; rintro z hz; omega)
  have BA := Lib.hid (bal (Below.refl w1.heap.size w1) (.cells #[.int .i64 (2)] 3))
  have PU := Lib.hid (rput_any none [] 0 w1.heap.size [2] 1 (w1.alloc (.cells #[.int .i64 (2)] 3)) ((R1.out.alloc (Nat.le_refl _) _).more (by simp)) (by simp) (ints_newM w1 [2] 3 _ rfl) HZ.out (by have := HL1.out; (try simp only [List.length_cons, List.length_nil] at this ⊢); (try simp only [List.length_cons, List.length_nil]); omega))
  go_wp2_with fail
  refine PU.out.mono ?_
  rintro e w2 ⟨A2, c2, rfl, r, b⟩
  obtain ⟨L2, hL2⟩ : ∃ L, L = [] ++ ([2] : List Int).flatMap fun z => enc z.toNat := ⟨_, rfl⟩
  rw [← hL2] at r ⊢
  have b' := BA.out.trans (b.mono BA.out.size)
  have B2 := Lib.hid (B1.out.trans (b'.mono B1.out.size))
  have KX2 := Lib.hid (KX1.out.below b' KX1.out.lt)
  have R2 := Lib.hid r
  have HL2 := Lib.hid (show L2.length ≤ 3 by rw [hL2, List.length_append]; have := puts_len [2] HZ.out; have := HL1.out; (try simp only [List.length_cons, List.length_nil] at this); (try simp only [List.length_cons, List.length_nil] at *); omega)
  have HQ2 := Lib.hid hL2
  clear r b b' hL2 PU HZ BA x0
  have xk : w2.cell? ⟨w.heap.size, 0, none⟩ = some (.int .i8 2) := by rw [← HKK.out]; exact mt_cell KX2.out (j := 0) rfl
  have x0 : w2.cell? ⟨w.heap.size, 1, none⟩ = some (.int .i64 m.tid) := mt_cell KX2.out (j := 1) rfl
  have HZ := Lib.hid (show ∀ z ∈ ([m.tid] : List Int), 0 ≤ z ∧ z ≤ 1048577 by have := HT.out; simp only [List.mem_cons, List.not_mem_nil, or_false]; rintro z hz; omega)
  have BA := Lib.hid (bal (Below.refl w2.heap.size w2) (.cells #[.int .i64 (m.tid)] 3))
  have PU := Lib.hid (rput_any A2 L2 c2 w2.heap.size [m.tid] 1 (w2.alloc (.cells #[.int .i64 (m.tid)] 3)) ((R2.out.alloc (Nat.le_refl _) _).more (by simp)) (by simp) (ints_newM w2 [m.tid] 3 _ rfl) HZ.out (by have := HL2.out; (try simp only [List.length_cons, List.length_nil] at this ⊢); (try simp only [List.length_cons, List.length_nil]); omega))
  go_wp2_with fail
  refine PU.out.mono ?_
  rintro e w3 ⟨A3, c3, rfl, r, b⟩
  obtain ⟨L3, hL3⟩ : ∃ L, L = L2 ++ ([m.tid] : List Int).flatMap fun z => enc z.toNat := ⟨_, rfl⟩
  rw [← hL3] at r ⊢
  have b' := BA.out.trans (b.mono BA.out.size)
  have B3 := Lib.hid (B2.out.trans (b'.mono B2.out.size))
  have KX3 := Lib.hid (KX2.out.below b' KX2.out.lt)
  have R3 := Lib.hid r
  have HL3 := Lib.hid (show L3.length ≤ 6 by rw [hL3, List.length_append]; have := puts_len [m.tid] HZ.out; have := HL2.out; (try simp only [List.length_cons, List.length_nil] at this); (try simp only [List.length_cons, List.length_nil] at *); omega)
  have HQ3 := Lib.hid hL3
  clear r b b' hL3 PU HZ BA x0
  have xk : w3.cell? ⟨w.heap.size, 0, none⟩ = some (.int .i8 2) := by rw [← HKK.out]; exact mt_cell KX3.out (j := 0) rfl
  have x0 : w3.cell? ⟨w.heap.size, 3, none⟩ = some (.int .i64 m.p.1) := mt_cell KX3.out (j := 3) rfl
  have x1 : w3.cell? ⟨w.heap.size, 4, none⟩ = some (.int .i64 m.p.2.1) := mt_cell KX3.out (j := 4) rfl
  have x2 : w3.cell? ⟨w.heap.size, 5, none⟩ = some (.int .i64 m.p.2.2) := mt_cell KX3.out (j := 5) rfl
  have HZ := Lib.hid (show ∀ z ∈ ([m.p.1, m.p.2.1, m.p.2.2] : List Int), 0 ≤ z ∧ z ≤ 1048577 by have := HN.out; simp only [List.mem_cons, List.not_mem_nil, or_false]; rintro z hz; omega)
  have BA := Lib.hid (bal (Below.refl w3.heap.size w3) (.cells #[.int .i64 (m.p.1), .int .i64 (m.p.2.1), .int .i64 (m.p.2.2)] 3))
  have PU := Lib.hid (rput_any A3 L3 c3 w3.heap.size [m.p.1, m.p.2.1, m.p.2.2] 3 (w3.alloc (.cells #[.int .i64 (m.p.1), .int .i64 (m.p.2.1), .int .i64 (m.p.2.2)] 3)) ((R3.out.alloc (Nat.le_refl _) _).more (by simp)) (by simp) (ints_newM w3 [m.p.1, m.p.2.1, m.p.2.2] 3 _ rfl) HZ.out (by have := HL3.out; (try simp only [List.length_cons, List.length_nil] at this ⊢); (try simp only [List.length_cons, List.length_nil]); omega))
  go_wp2_with fail
  refine PU.out.mono ?_
  rintro e w4 ⟨A4, c4, rfl, r, b⟩
  obtain ⟨L4, hL4⟩ : ∃ L, L = L3 ++ ([m.p.1, m.p.2.1, m.p.2.2] : List Int).flatMap fun z => enc z.toNat := ⟨_, rfl⟩
  rw [← hL4] at r ⊢
  have b' := BA.out.trans (b.mono BA.out.size)
  have B4 := Lib.hid (B3.out.trans (b'.mono B3.out.size))
  have KX4 := Lib.hid (KX3.out.below b' KX3.out.lt)
  have R4 := Lib.hid r
  have HL4 := Lib.hid (show L4.length ≤ 15 by rw [hL4, List.length_append]; have := puts_len [m.p.1, m.p.2.1, m.p.2.2] HZ.out; have := HL3.out; (try simp only [List.length_cons, List.length_nil] at this); (try simp only [List.length_cons, List.length_nil] at *); omega)
  have HQ4 := Lib.hid hL4
  clear r b b' hL4 PU HZ BA x0 x1 x2
  have xk : w4.cell? ⟨w.heap.size, 0, none⟩ = some (.int .i8 2) := by rw [← HKK.out]; exact mt_cell KX4.out (j := 0) rfl
  have t1 := run_string_of (P := Tryz.prog) (src := 75) (dst := 9) (c := c4) Tryz.underlying75 Tryz.underlying5 Tryz.underlying9 R4.out
  have HE := Lib.hid (show encM m = L4 from by
    have he : encMb m = enc m.tid.toNat ++ (enc (m.p.1).toNat ++ (enc (m.p.2.1).toNat ++ (enc (m.p.2.2).toNat))) := by unfold encMb; rw [HKK.out]; rfl
    unfold encM
    rw [HKK.out, he, HQ4.out, HQ3.out, HQ2.out]
    simp only [List.flatMap_cons, List.flatMap_nil, List.append_nil, List.nil_append, List.append_assoc])
  go_wp2_with fail
  go_ret2
  exact ⟨by rw [HE.out]; rfl, B4.out⟩
set_option maxRecDepth 100000 in
set_option maxHeartbeats 8000000 in
theorem rMtBytes_3 (m : Mt) (A D : Option Addr) (c e : Nat) (w : World) (hk : m.kd = 3) (h : CoR w w.heap.size m.c A D) (h8 : -128 ≤ m.c.st) (h9 : m.c.st ≤ 127) (hm : mayM m = true) (ht : 0 ≤ m.tid ∧ m.tid ≤ 1048576) (hn : 0 ≤ m.th ∧ m.th ≤ 1048576) :
    Calls Tryz.prog 17 #[.agg (mtX m A D c e)] w (MbPost (bs (encM m)) 0 w) := by
  obtain ⟨W0, hW0⟩ : ∃ W0, W0 = w.alloc (.cells (mtX m A D c e) 42) := ⟨_, rfl⟩
  have B0 : Below w.heap.size w W0 := by rw [hW0]; exact bal (Below.refl _ _) _
  have K0 : Blk W0 w.heap.size 42 (mtX m A D c e) := by rw [hW0]; exact Blk.new w 42 _
  have l0 := mt_load (P := Tryz.prog) K0
  have MY := Lib.hid (rMayM_all m A D c e W0.heap.size W0 (h.up B0) (Nat.le_refl _) h8 h9)
  rw [hm] at MY
  have HB := Lib.hid B0
  have HK := Lib.hid K0
  have HW := Lib.hid hW0
  have HT := Lib.hid ht
  have HD := Lib.hid h.2.1
  have HKK := Lib.hid hk
  have HN := Lib.hid hn
  clear hW0 B0 K0 h hm ht hk h8 h9 hn
  go_enter Tryz.func17, Tryz.ntmps17
  go_upto_region 1 with (fail)
  rw [← HW.out]
  go_wp2_with fail
  refine MY.out.mono ?_
  rintro e w1 ⟨rfl, b1⟩
  have B1 := Lib.hid (HB.out.trans (b1.mono HB.out.size))
  have KX1 := Lib.hid (HK.out.below b1 HK.out.lt)
  have R1 := Lib.hid (show Reads w1 w1.heap.size 1 none ([] : List UInt8).length (cellsB []) from Reads.none_)
  have HL1 := Lib.hid (show ([] : List UInt8).length ≤ 0 from Nat.le_refl _)
  clear b1 l0
  have x0 : w1.cell? ⟨w.heap.size, 0, none⟩ = some (.int .i8 3) := by rw [← HKK.out]; exact mt_cell KX1.out (j := 0) rfl
  have HZ := Lib.hid (show ∀ z ∈ ([3] : List Int), 0 ≤ z ∧ z ≤ 1048577 by have := HKK.out; simp only [List.mem_cons, List.not_mem_nil, or_false]; rintro z hz; omega)
  have BA := Lib.hid (bal (Below.refl w1.heap.size w1) (.cells #[.int .i64 (3)] 3))
  have PU := Lib.hid (rput_any none [] 0 w1.heap.size [3] 1 (w1.alloc (.cells #[.int .i64 (3)] 3)) ((R1.out.alloc (Nat.le_refl _) _).more (by simp)) (by simp) (ints_newM w1 [3] 3 _ rfl) HZ.out (by have := HL1.out; (try simp only [List.length_cons, List.length_nil] at this ⊢); (try simp only [List.length_cons, List.length_nil]); omega))
  go_wp2_with fail
  refine PU.out.mono ?_
  rintro e w2 ⟨A2, c2, rfl, r, b⟩
  obtain ⟨L2, hL2⟩ : ∃ L, L = [] ++ ([3] : List Int).flatMap fun z => enc z.toNat := ⟨_, rfl⟩
  rw [← hL2] at r ⊢
  have b' := BA.out.trans (b.mono BA.out.size)
  have B2 := Lib.hid (B1.out.trans (b'.mono B1.out.size))
  have KX2 := Lib.hid (KX1.out.below b' KX1.out.lt)
  have R2 := Lib.hid r
  have HL2 := Lib.hid (show L2.length ≤ 3 by rw [hL2, List.length_append]; have := puts_len [3] HZ.out; have := HL1.out; (try simp only [List.length_cons, List.length_nil] at this); (try simp only [List.length_cons, List.length_nil] at *); omega)
  have HQ2 := Lib.hid hL2
  clear r b b' hL2 PU HZ BA x0
  have xk : w2.cell? ⟨w.heap.size, 0, none⟩ = some (.int .i8 3) := by rw [← HKK.out]; exact mt_cell KX2.out (j := 0) rfl
  have x0 : w2.cell? ⟨w.heap.size, 1, none⟩ = some (.int .i64 m.tid) := mt_cell KX2.out (j := 1) rfl
  have HZ := Lib.hid (show ∀ z ∈ ([m.tid] : List Int), 0 ≤ z ∧ z ≤ 1048577 by have := HT.out; simp only [List.mem_cons, List.not_mem_nil, or_false]; rintro z hz; omega)
  have BA := Lib.hid (bal (Below.refl w2.heap.size w2) (.cells #[.int .i64 (m.tid)] 3))
  have PU := Lib.hid (rput_any A2 L2 c2 w2.heap.size [m.tid] 1 (w2.alloc (.cells #[.int .i64 (m.tid)] 3)) ((R2.out.alloc (Nat.le_refl _) _).more (by simp)) (by simp) (ints_newM w2 [m.tid] 3 _ rfl) HZ.out (by have := HL2.out; (try simp only [List.length_cons, List.length_nil] at this ⊢); (try simp only [List.length_cons, List.length_nil]); omega))
  go_wp2_with fail
  refine PU.out.mono ?_
  rintro e w3 ⟨A3, c3, rfl, r, b⟩
  obtain ⟨L3, hL3⟩ : ∃ L, L = L2 ++ ([m.tid] : List Int).flatMap fun z => enc z.toNat := ⟨_, rfl⟩
  rw [← hL3] at r ⊢
  have b' := BA.out.trans (b.mono BA.out.size)
  have B3 := Lib.hid (B2.out.trans (b'.mono B2.out.size))
  have KX3 := Lib.hid (KX2.out.below b' KX2.out.lt)
  have R3 := Lib.hid r
  have HL3 := Lib.hid (show L3.length ≤ 6 by rw [hL3, List.length_append]; have := puts_len [m.tid] HZ.out; have := HL2.out; (try simp only [List.length_cons, List.length_nil] at this); (try simp only [List.length_cons, List.length_nil] at *); omega)
  have HQ3 := Lib.hid hL3
  clear r b b' hL3 PU HZ BA x0
  have xk : w3.cell? ⟨w.heap.size, 0, none⟩ = some (.int .i8 3) := by rw [← HKK.out]; exact mt_cell KX3.out (j := 0) rfl
  have x6 : w3.cell? ⟨w.heap.size, 6, none⟩ = some (.bool m.yes) := mt_cell KX3.out (j := 6) rfl
  have FL := Lib.hid (rFlag_any A3 L3 c3 m.yes w3 R3.out (by have := HL3.out; omega))
  go_wp2_with fail
  refine FL.out.mono ?_
  rintro e w4 ⟨A4, c4, rfl, ow, _, b⟩
  obtain ⟨L4, hL4⟩ : ∃ L, L = L3 ++ encY m.yes := ⟨_, rfl⟩
  rw [← hL4] at ow ⊢
  have B4 := Lib.hid (B3.out.trans (b.mono B3.out.size))
  have KX4 := Lib.hid (KX3.out.below b KX3.out.lt)
  have R4 := Lib.hid (Reads.of_own ow)
  have HL4 := Lib.hid (show L4.length ≤ 7 by rw [hL4, List.length_append]; have := HL3.out; have : (encY m.yes).length = 1 := rfl; omega)
  have HQ4 := Lib.hid hL4
  clear ow b hL4 FL x6
  have xk : w4.cell? ⟨w.heap.size, 0, none⟩ = some (.int .i8 3) := by rw [← HKK.out]; exact mt_cell KX4.out (j := 0) rfl
  have x0 : w4.cell? ⟨w.heap.size, 7, none⟩ = some (.int .i64 m.th) := mt_cell KX4.out (j := 7) rfl
  have HZ := Lib.hid (show ∀ z ∈ ([m.th] : List Int), 0 ≤ z ∧ z ≤ 1048577 by have := HN.out; simp only [List.mem_cons, List.not_mem_nil, or_false]; rintro z hz; omega)
  have BA := Lib.hid (bal (Below.refl w4.heap.size w4) (.cells #[.int .i64 (m.th)] 3))
  have PU := Lib.hid (rput_any A4 L4 c4 w4.heap.size [m.th] 1 (w4.alloc (.cells #[.int .i64 (m.th)] 3)) ((R4.out.alloc (Nat.le_refl _) _).more (by simp)) (by simp) (ints_newM w4 [m.th] 3 _ rfl) HZ.out (by have := HL4.out; (try simp only [List.length_cons, List.length_nil] at this ⊢); (try simp only [List.length_cons, List.length_nil]); omega))
  go_wp2_with fail
  refine PU.out.mono ?_
  rintro e w5 ⟨A5, c5, rfl, r, b⟩
  obtain ⟨L5, hL5⟩ : ∃ L, L = L4 ++ ([m.th] : List Int).flatMap fun z => enc z.toNat := ⟨_, rfl⟩
  rw [← hL5] at r ⊢
  have b' := BA.out.trans (b.mono BA.out.size)
  have B5 := Lib.hid (B4.out.trans (b'.mono B4.out.size))
  have KX5 := Lib.hid (KX4.out.below b' KX4.out.lt)
  have R5 := Lib.hid r
  have HL5 := Lib.hid (show L5.length ≤ 10 by rw [hL5, List.length_append]; have := puts_len [m.th] HZ.out; have := HL4.out; (try simp only [List.length_cons, List.length_nil] at this); (try simp only [List.length_cons, List.length_nil] at *); omega)
  have HQ5 := Lib.hid hL5
  clear r b b' hL5 PU HZ BA x0
  have xk : w5.cell? ⟨w.heap.size, 0, none⟩ = some (.int .i8 3) := by rw [← HKK.out]; exact mt_cell KX5.out (j := 0) rfl
  have t1 := run_string_of (P := Tryz.prog) (src := 75) (dst := 9) (c := c5) Tryz.underlying75 Tryz.underlying5 Tryz.underlying9 R5.out
  have HE := Lib.hid (show encM m = L5 from by
    have he : encMb m = enc m.tid.toNat ++ (encY m.yes ++ enc m.th.toNat) := by unfold encMb; rw [HKK.out]; rfl
    unfold encM
    rw [HKK.out, he, HQ5.out, HQ4.out, HQ3.out, HQ2.out]
    simp only [List.flatMap_cons, List.flatMap_nil, List.append_nil, List.nil_append, List.append_assoc])
  go_wp2_with fail
  go_ret2
  exact ⟨by rw [HE.out]; rfl, B5.out⟩
set_option maxRecDepth 100000 in
set_option maxHeartbeats 8000000 in
theorem rMtBytes_4 (m : Mt) (A D : Option Addr) (c e : Nat) (w : World) (hk : m.kd = 4) (h : CoR w w.heap.size m.c A D) (h8 : -128 ≤ m.c.st) (h9 : m.c.st ≤ 127) (hm : mayM m = true) (ht : 0 ≤ m.tid ∧ m.tid ≤ 1048576)  :
    Calls Tryz.prog 17 #[.agg (mtX m A D c e)] w (MbPost (bs (encM m)) 0 w) := by
  obtain ⟨W0, hW0⟩ : ∃ W0, W0 = w.alloc (.cells (mtX m A D c e) 42) := ⟨_, rfl⟩
  have B0 : Below w.heap.size w W0 := by rw [hW0]; exact bal (Below.refl _ _) _
  have K0 : Blk W0 w.heap.size 42 (mtX m A D c e) := by rw [hW0]; exact Blk.new w 42 _
  have l0 := mt_load (P := Tryz.prog) K0
  have MY := Lib.hid (rMayM_all m A D c e W0.heap.size W0 (h.up B0) (Nat.le_refl _) h8 h9)
  rw [hm] at MY
  have HB := Lib.hid B0
  have HK := Lib.hid K0
  have HW := Lib.hid hW0
  have HT := Lib.hid ht
  have HD := Lib.hid h.2.1
  have HKK := Lib.hid hk
  clear hW0 B0 K0 h hm ht hk h8 h9 
  go_enter Tryz.func17, Tryz.ntmps17
  go_upto_region 1 with (fail)
  rw [← HW.out]
  go_wp2_with fail
  refine MY.out.mono ?_
  rintro e w1 ⟨rfl, b1⟩
  have B1 := Lib.hid (HB.out.trans (b1.mono HB.out.size))
  have KX1 := Lib.hid (HK.out.below b1 HK.out.lt)
  have R1 := Lib.hid (show Reads w1 w1.heap.size 1 none ([] : List UInt8).length (cellsB []) from Reads.none_)
  have HL1 := Lib.hid (show ([] : List UInt8).length ≤ 0 from Nat.le_refl _)
  clear b1 l0
  have x0 : w1.cell? ⟨w.heap.size, 0, none⟩ = some (.int .i8 4) := by rw [← HKK.out]; exact mt_cell KX1.out (j := 0) rfl
  have HZ := Lib.hid (show ∀ z ∈ ([4] : List Int), 0 ≤ z ∧ z ≤ 1048577 by have := HKK.out; simp only [List.mem_cons, List.not_mem_nil, or_false]; rintro z hz; omega)
  have BA := Lib.hid (bal (Below.refl w1.heap.size w1) (.cells #[.int .i64 (4)] 3))
  have PU := Lib.hid (rput_any none [] 0 w1.heap.size [4] 1 (w1.alloc (.cells #[.int .i64 (4)] 3)) ((R1.out.alloc (Nat.le_refl _) _).more (by simp)) (by simp) (ints_newM w1 [4] 3 _ rfl) HZ.out (by have := HL1.out; (try simp only [List.length_cons, List.length_nil] at this ⊢); (try simp only [List.length_cons, List.length_nil]); omega))
  go_wp2_with fail
  refine PU.out.mono ?_
  rintro e w2 ⟨A2, c2, rfl, r, b⟩
  obtain ⟨L2, hL2⟩ : ∃ L, L = [] ++ ([4] : List Int).flatMap fun z => enc z.toNat := ⟨_, rfl⟩
  rw [← hL2] at r ⊢
  have b' := BA.out.trans (b.mono BA.out.size)
  have B2 := Lib.hid (B1.out.trans (b'.mono B1.out.size))
  have KX2 := Lib.hid (KX1.out.below b' KX1.out.lt)
  have R2 := Lib.hid r
  have HL2 := Lib.hid (show L2.length ≤ 3 by rw [hL2, List.length_append]; have := puts_len [4] HZ.out; have := HL1.out; (try simp only [List.length_cons, List.length_nil] at this); (try simp only [List.length_cons, List.length_nil] at *); omega)
  have HQ2 := Lib.hid hL2
  clear r b b' hL2 PU HZ BA x0
  have xk : w2.cell? ⟨w.heap.size, 0, none⟩ = some (.int .i8 4) := by rw [← HKK.out]; exact mt_cell KX2.out (j := 0) rfl
  have x0 : w2.cell? ⟨w.heap.size, 1, none⟩ = some (.int .i64 m.tid) := mt_cell KX2.out (j := 1) rfl
  have HZ := Lib.hid (show ∀ z ∈ ([m.tid] : List Int), 0 ≤ z ∧ z ≤ 1048577 by have := HT.out; simp only [List.mem_cons, List.not_mem_nil, or_false]; rintro z hz; omega)
  have BA := Lib.hid (bal (Below.refl w2.heap.size w2) (.cells #[.int .i64 (m.tid)] 3))
  have PU := Lib.hid (rput_any A2 L2 c2 w2.heap.size [m.tid] 1 (w2.alloc (.cells #[.int .i64 (m.tid)] 3)) ((R2.out.alloc (Nat.le_refl _) _).more (by simp)) (by simp) (ints_newM w2 [m.tid] 3 _ rfl) HZ.out (by have := HL2.out; (try simp only [List.length_cons, List.length_nil] at this ⊢); (try simp only [List.length_cons, List.length_nil]); omega))
  go_wp2_with fail
  refine PU.out.mono ?_
  rintro e w3 ⟨A3, c3, rfl, r, b⟩
  obtain ⟨L3, hL3⟩ : ∃ L, L = L2 ++ ([m.tid] : List Int).flatMap fun z => enc z.toNat := ⟨_, rfl⟩
  rw [← hL3] at r ⊢
  have b' := BA.out.trans (b.mono BA.out.size)
  have B3 := Lib.hid (B2.out.trans (b'.mono B2.out.size))
  have KX3 := Lib.hid (KX2.out.below b' KX2.out.lt)
  have R3 := Lib.hid r
  have HL3 := Lib.hid (show L3.length ≤ 6 by rw [hL3, List.length_append]; have := puts_len [m.tid] HZ.out; have := HL2.out; (try simp only [List.length_cons, List.length_nil] at this); (try simp only [List.length_cons, List.length_nil] at *); omega)
  have HQ3 := Lib.hid hL3
  clear r b b' hL3 PU HZ BA x0
  have xk : w3.cell? ⟨w.heap.size, 0, none⟩ = some (.int .i8 4) := by rw [← HKK.out]; exact mt_cell KX3.out (j := 0) rfl
  have t1 := run_string_of (P := Tryz.prog) (src := 75) (dst := 9) (c := c3) Tryz.underlying75 Tryz.underlying5 Tryz.underlying9 R3.out
  have HE := Lib.hid (show encM m = L3 from by
    have he : encMb m = enc m.tid.toNat := by unfold encMb; rw [HKK.out]; rfl
    unfold encM
    rw [HKK.out, he, HQ3.out, HQ2.out]
    simp only [List.flatMap_cons, List.flatMap_nil, List.append_nil, List.nil_append, List.append_assoc])
  go_wp2_with fail
  go_ret2
  exact ⟨by rw [HE.out]; rfl, B3.out⟩
set_option maxRecDepth 100000 in
set_option maxHeartbeats 8000000 in
theorem rMtBytes_5 (m : Mt) (A D : Option Addr) (c e : Nat) (w : World) (hk : m.kd = 5) (h : CoR w w.heap.size m.c A D) (h8 : -128 ≤ m.c.st) (h9 : m.c.st ≤ 127) (hm : mayM m = true) (ht : 0 ≤ m.tid ∧ m.tid ≤ 1048576) (hn : (0 ≤ m.p.1 ∧ m.p.1 ≤ 1) ∧ (0 ≤ m.p.2.1 ∧ m.p.2.1 ≤ 2) ∧ 0 ≤ m.p.2.2 ∧ m.p.2.2 ≤ 1048576) :
    Calls Tryz.prog 17 #[.agg (mtX m A D c e)] w (MbPost (bs (encM m)) 0 w) := by
  obtain ⟨W0, hW0⟩ : ∃ W0, W0 = w.alloc (.cells (mtX m A D c e) 42) := ⟨_, rfl⟩
  have B0 : Below w.heap.size w W0 := by rw [hW0]; exact bal (Below.refl _ _) _
  have K0 : Blk W0 w.heap.size 42 (mtX m A D c e) := by rw [hW0]; exact Blk.new w 42 _
  have l0 := mt_load (P := Tryz.prog) K0
  have MY := Lib.hid (rMayM_all m A D c e W0.heap.size W0 (h.up B0) (Nat.le_refl _) h8 h9)
  rw [hm] at MY
  have HB := Lib.hid B0
  have HK := Lib.hid K0
  have HW := Lib.hid hW0
  have HT := Lib.hid ht
  have HD := Lib.hid h.2.1
  have HKK := Lib.hid hk
  have HN := Lib.hid hn
  clear hW0 B0 K0 h hm ht hk h8 h9 hn
  go_enter Tryz.func17, Tryz.ntmps17
  go_upto_region 1 with (fail)
  rw [← HW.out]
  go_wp2_with fail
  refine MY.out.mono ?_
  rintro e w1 ⟨rfl, b1⟩
  have B1 := Lib.hid (HB.out.trans (b1.mono HB.out.size))
  have KX1 := Lib.hid (HK.out.below b1 HK.out.lt)
  have R1 := Lib.hid (show Reads w1 w1.heap.size 1 none ([] : List UInt8).length (cellsB []) from Reads.none_)
  have HL1 := Lib.hid (show ([] : List UInt8).length ≤ 0 from Nat.le_refl _)
  clear b1 l0
  have x0 : w1.cell? ⟨w.heap.size, 0, none⟩ = some (.int .i8 5) := by rw [← HKK.out]; exact mt_cell KX1.out (j := 0) rfl
  have HZ := Lib.hid (show ∀ z ∈ ([5] : List Int), 0 ≤ z ∧ z ≤ 1048577 by have := HKK.out; simp only [List.mem_cons, List.not_mem_nil, or_false]; rintro z hz; omega)
  have BA := Lib.hid (bal (Below.refl w1.heap.size w1) (.cells #[.int .i64 (5)] 3))
  have PU := Lib.hid (rput_any none [] 0 w1.heap.size [5] 1 (w1.alloc (.cells #[.int .i64 (5)] 3)) ((R1.out.alloc (Nat.le_refl _) _).more (by simp)) (by simp) (ints_newM w1 [5] 3 _ rfl) HZ.out (by have := HL1.out; (try simp only [List.length_cons, List.length_nil] at this ⊢); (try simp only [List.length_cons, List.length_nil]); omega))
  go_wp2_with fail
  refine PU.out.mono ?_
  rintro e w2 ⟨A2, c2, rfl, r, b⟩
  obtain ⟨L2, hL2⟩ : ∃ L, L = [] ++ ([5] : List Int).flatMap fun z => enc z.toNat := ⟨_, rfl⟩
  rw [← hL2] at r ⊢
  have b' := BA.out.trans (b.mono BA.out.size)
  have B2 := Lib.hid (B1.out.trans (b'.mono B1.out.size))
  have KX2 := Lib.hid (KX1.out.below b' KX1.out.lt)
  have R2 := Lib.hid r
  have HL2 := Lib.hid (show L2.length ≤ 3 by rw [hL2, List.length_append]; have := puts_len [5] HZ.out; have := HL1.out; (try simp only [List.length_cons, List.length_nil] at this); (try simp only [List.length_cons, List.length_nil] at *); omega)
  have HQ2 := Lib.hid hL2
  clear r b b' hL2 PU HZ BA x0
  have xk : w2.cell? ⟨w.heap.size, 0, none⟩ = some (.int .i8 5) := by rw [← HKK.out]; exact mt_cell KX2.out (j := 0) rfl
  have x0 : w2.cell? ⟨w.heap.size, 3, none⟩ = some (.int .i64 m.p.1) := mt_cell KX2.out (j := 3) rfl
  have x1 : w2.cell? ⟨w.heap.size, 4, none⟩ = some (.int .i64 m.p.2.1) := mt_cell KX2.out (j := 4) rfl
  have x2 : w2.cell? ⟨w.heap.size, 5, none⟩ = some (.int .i64 m.p.2.2) := mt_cell KX2.out (j := 5) rfl
  have HZ := Lib.hid (show ∀ z ∈ ([m.p.1, m.p.2.1, m.p.2.2] : List Int), 0 ≤ z ∧ z ≤ 1048577 by have := HN.out; simp only [List.mem_cons, List.not_mem_nil, or_false]; rintro z hz; omega)
  have BA := Lib.hid (bal (Below.refl w2.heap.size w2) (.cells #[.int .i64 (m.p.1), .int .i64 (m.p.2.1), .int .i64 (m.p.2.2)] 3))
  have PU := Lib.hid (rput_any A2 L2 c2 w2.heap.size [m.p.1, m.p.2.1, m.p.2.2] 3 (w2.alloc (.cells #[.int .i64 (m.p.1), .int .i64 (m.p.2.1), .int .i64 (m.p.2.2)] 3)) ((R2.out.alloc (Nat.le_refl _) _).more (by simp)) (by simp) (ints_newM w2 [m.p.1, m.p.2.1, m.p.2.2] 3 _ rfl) HZ.out (by have := HL2.out; (try simp only [List.length_cons, List.length_nil] at this ⊢); (try simp only [List.length_cons, List.length_nil]); omega))
  go_wp2_with fail
  refine PU.out.mono ?_
  rintro e w3 ⟨A3, c3, rfl, r, b⟩
  obtain ⟨L3, hL3⟩ : ∃ L, L = L2 ++ ([m.p.1, m.p.2.1, m.p.2.2] : List Int).flatMap fun z => enc z.toNat := ⟨_, rfl⟩
  rw [← hL3] at r ⊢
  have b' := BA.out.trans (b.mono BA.out.size)
  have B3 := Lib.hid (B2.out.trans (b'.mono B2.out.size))
  have KX3 := Lib.hid (KX2.out.below b' KX2.out.lt)
  have R3 := Lib.hid r
  have HL3 := Lib.hid (show L3.length ≤ 12 by rw [hL3, List.length_append]; have := puts_len [m.p.1, m.p.2.1, m.p.2.2] HZ.out; have := HL2.out; (try simp only [List.length_cons, List.length_nil] at this); (try simp only [List.length_cons, List.length_nil] at *); omega)
  have HQ3 := Lib.hid hL3
  clear r b b' hL3 PU HZ BA x0 x1 x2
  have xk : w3.cell? ⟨w.heap.size, 0, none⟩ = some (.int .i8 5) := by rw [← HKK.out]; exact mt_cell KX3.out (j := 0) rfl
  have t1 := run_string_of (P := Tryz.prog) (src := 75) (dst := 9) (c := c3) Tryz.underlying75 Tryz.underlying5 Tryz.underlying9 R3.out
  have HE := Lib.hid (show encM m = L3 from by
    have he : encMb m = enc (m.p.1).toNat ++ (enc (m.p.2.1).toNat ++ (enc (m.p.2.2).toNat)) := by unfold encMb; rw [HKK.out]; rfl
    unfold encM
    rw [HKK.out, he, HQ3.out, HQ2.out]
    simp only [List.flatMap_cons, List.flatMap_nil, List.append_nil, List.nil_append, List.append_assoc])
  go_wp2_with fail
  go_ret2
  exact ⟨by rw [HE.out]; rfl, B3.out⟩
set_option maxRecDepth 100000 in
set_option maxHeartbeats 8000000 in
theorem rMtBytes_6 (m : Mt) (A D : Option Addr) (c e : Nat) (w : World) (hk : m.kd = 6) (h : CoR w w.heap.size m.c A D) (h8 : -128 ≤ m.c.st) (h9 : m.c.st ≤ 127) (hm : mayM m = true) (ht : 0 ≤ m.tid ∧ m.tid ≤ 1048576) (hc : mayB m.c = true) :
    Calls Tryz.prog 17 #[.agg (mtX m A D c e)] w (MbPost (bs (encM m)) 0 w) := by
  obtain ⟨W0, hW0⟩ : ∃ W0, W0 = w.alloc (.cells (mtX m A D c e) 42) := ⟨_, rfl⟩
  have B0 : Below w.heap.size w W0 := by rw [hW0]; exact bal (Below.refl _ _) _
  have K0 : Blk W0 w.heap.size 42 (mtX m A D c e) := by rw [hW0]; exact Blk.new w 42 _
  have l0 := mt_load (P := Tryz.prog) K0
  have MY := Lib.hid (rMayM_all m A D c e W0.heap.size W0 (h.up B0) (Nat.le_refl _) h8 h9)
  rw [hm] at MY
  have HB := Lib.hid B0
  have HK := Lib.hid K0
  have HW := Lib.hid hW0
  have HT := Lib.hid ht
  have HD := Lib.hid h.2.1
  have HKK := Lib.hid hk
  have HC := Lib.hid hc
  have HX := Lib.hid (may_box hc)
  have wcs : IntKind.i64.wrap m.c.st = m.c.st := IntWalk.i64_in _ (by omega)
  clear hW0 B0 K0 h hm ht hk h8 h9 hc
  go_enter Tryz.func17, Tryz.ntmps17
  go_upto_region 1 with (fail)
  rw [← HW.out]
  go_wp2_with fail
  refine MY.out.mono ?_
  rintro e w1 ⟨rfl, b1⟩
  have B1 := Lib.hid (HB.out.trans (b1.mono HB.out.size))
  have KX1 := Lib.hid (HK.out.below b1 HK.out.lt)
  have R1 := Lib.hid (show Reads w1 w1.heap.size 1 none ([] : List UInt8).length (cellsB []) from Reads.none_)
  have HL1 := Lib.hid (show ([] : List UInt8).length ≤ 0 from Nat.le_refl _)
  clear b1 l0
  have x0 : w1.cell? ⟨w.heap.size, 0, none⟩ = some (.int .i8 6) := by rw [← HKK.out]; exact mt_cell KX1.out (j := 0) rfl
  have HZ := Lib.hid (show ∀ z ∈ ([6] : List Int), 0 ≤ z ∧ z ≤ 1048577 by have := HKK.out; simp only [List.mem_cons, List.not_mem_nil, or_false]; rintro z hz; omega)
  have BA := Lib.hid (bal (Below.refl w1.heap.size w1) (.cells #[.int .i64 (6)] 3))
  have PU := Lib.hid (rput_any none [] 0 w1.heap.size [6] 1 (w1.alloc (.cells #[.int .i64 (6)] 3)) ((R1.out.alloc (Nat.le_refl _) _).more (by simp)) (by simp) (ints_newM w1 [6] 3 _ rfl) HZ.out (by have := HL1.out; (try simp only [List.length_cons, List.length_nil] at this ⊢); (try simp only [List.length_cons, List.length_nil]); omega))
  go_wp2_with fail
  refine PU.out.mono ?_
  rintro e w2 ⟨A2, c2, rfl, r, b⟩
  obtain ⟨L2, hL2⟩ : ∃ L, L = [] ++ ([6] : List Int).flatMap fun z => enc z.toNat := ⟨_, rfl⟩
  rw [← hL2] at r ⊢
  have b' := BA.out.trans (b.mono BA.out.size)
  have B2 := Lib.hid (B1.out.trans (b'.mono B1.out.size))
  have KX2 := Lib.hid (KX1.out.below b' KX1.out.lt)
  have R2 := Lib.hid r
  have HL2 := Lib.hid (show L2.length ≤ 3 by rw [hL2, List.length_append]; have := puts_len [6] HZ.out; have := HL1.out; (try simp only [List.length_cons, List.length_nil] at this); (try simp only [List.length_cons, List.length_nil] at *); omega)
  have HQ2 := Lib.hid hL2
  clear r b b' hL2 PU HZ BA x0
  have xk : w2.cell? ⟨w.heap.size, 0, none⟩ = some (.int .i8 6) := by rw [← HKK.out]; exact mt_cell KX2.out (j := 0) rfl
  have x0 : w2.cell? ⟨w.heap.size, 1, none⟩ = some (.int .i64 m.tid) := mt_cell KX2.out (j := 1) rfl
  have HZ := Lib.hid (show ∀ z ∈ ([m.tid] : List Int), 0 ≤ z ∧ z ≤ 1048577 by have := HT.out; simp only [List.mem_cons, List.not_mem_nil, or_false]; rintro z hz; omega)
  have BA := Lib.hid (bal (Below.refl w2.heap.size w2) (.cells #[.int .i64 (m.tid)] 3))
  have PU := Lib.hid (rput_any A2 L2 c2 w2.heap.size [m.tid] 1 (w2.alloc (.cells #[.int .i64 (m.tid)] 3)) ((R2.out.alloc (Nat.le_refl _) _).more (by simp)) (by simp) (ints_newM w2 [m.tid] 3 _ rfl) HZ.out (by have := HL2.out; (try simp only [List.length_cons, List.length_nil] at this ⊢); (try simp only [List.length_cons, List.length_nil]); omega))
  go_wp2_with fail
  refine PU.out.mono ?_
  rintro e w3 ⟨A3, c3, rfl, r, b⟩
  obtain ⟨L3, hL3⟩ : ∃ L, L = L2 ++ ([m.tid] : List Int).flatMap fun z => enc z.toNat := ⟨_, rfl⟩
  rw [← hL3] at r ⊢
  have b' := BA.out.trans (b.mono BA.out.size)
  have B3 := Lib.hid (B2.out.trans (b'.mono B2.out.size))
  have KX3 := Lib.hid (KX2.out.below b' KX2.out.lt)
  have R3 := Lib.hid r
  have HL3 := Lib.hid (show L3.length ≤ 6 by rw [hL3, List.length_append]; have := puts_len [m.tid] HZ.out; have := HL2.out; (try simp only [List.length_cons, List.length_nil] at this); (try simp only [List.length_cons, List.length_nil] at *); omega)
  have HQ3 := Lib.hid hL3
  clear r b b' hL3 PU HZ BA x0
  have xk : w3.cell? ⟨w.heap.size, 0, none⟩ = some (.int .i8 6) := by rw [← HKK.out]; exact mt_cell KX3.out (j := 0) rfl
  have xco := mt_co (P := Tryz.prog) KX3.out
  obtain ⟨w4, stc, kc, bc, sc⟩ := bk_fresh (P := Tryz.prog) w3 29 #[.int .i8 0, .int .i64 0, .int .i64 0, .int .i64 0, .int .i64 0, .slice none 0 0, .slice none 0 0, .int .i64 0] #[.int .i8 m.c.st, .int .i64 m.c.pid, .int .i64 m.c.ep, .int .i64 m.c.tm, .int .i64 m.c.th, .slice A m.c.ps.length c, .slice D m.c.qs.length e, .int .i64 m.c.ag] 8 infoCoS rfl rfl (by simp [Value.oneCell'])
  have B4 := Lib.hid (B3.out.trans (bc.mono B3.out.size))
  have KX4 := Lib.hid (KX3.out.below bc KX3.out.lt)
  have R4 := Lib.hid ((R3.out.below bc).more bc.size)
  have KC4 := Lib.hid kc
  have HL4 := HL3
  have z0 := kc.cell 0
  have z1 := kc.cell 1
  have z2 := kc.cell 2
  have z3 := kc.cell 3
  have z4 := kc.cell 4
  have z6 := kc.cell 6
  clear kc bc sc
  have HZ := Lib.hid (show ∀ z ∈ ([m.c.st, m.c.pid, m.c.ep, m.c.tm, m.c.th, (m.c.qs.length : Int)] : List Int), 0 ≤ z ∧ z ≤ 1048577 by have := HX.out; simp only [List.mem_cons, List.not_mem_nil, or_false]; rintro z hz; omega)
  have BA := Lib.hid (bal (Below.refl w4.heap.size w4) (.cells #[.int .i64 (m.c.st), .int .i64 (m.c.pid), .int .i64 (m.c.ep), .int .i64 (m.c.tm), .int .i64 (m.c.th), .int .i64 ((m.c.qs.length : Int))] 3))
  have PU := Lib.hid (rput_any A3 L3 c3 w4.heap.size [m.c.st, m.c.pid, m.c.ep, m.c.tm, m.c.th, (m.c.qs.length : Int)] 6 (w4.alloc (.cells #[.int .i64 (m.c.st), .int .i64 (m.c.pid), .int .i64 (m.c.ep), .int .i64 (m.c.tm), .int .i64 (m.c.th), .int .i64 ((m.c.qs.length : Int))] 3)) ((R4.out.alloc (Nat.le_refl _) _).more (by simp)) (by simp) (ints_newM w4 [m.c.st, m.c.pid, m.c.ep, m.c.tm, m.c.th, (m.c.qs.length : Int)] 3 _ rfl) HZ.out (by have := HL4.out; (try simp only [List.length_cons, List.length_nil] at this ⊢); (try simp only [List.length_cons, List.length_nil]); omega))
  go_wp2_with fail
  refine PU.out.mono ?_
  rintro e w5 ⟨A5, c5, rfl, r, b⟩
  obtain ⟨L5, hL5⟩ : ∃ L, L = L3 ++ ([m.c.st, m.c.pid, m.c.ep, m.c.tm, m.c.th, (m.c.qs.length : Int)] : List Int).flatMap fun z => enc z.toNat := ⟨_, rfl⟩
  rw [← hL5] at r ⊢
  have b' := BA.out.trans (b.mono BA.out.size)
  have B5 := Lib.hid (B4.out.trans (b'.mono B4.out.size))
  have KX5 := Lib.hid (KX4.out.below b' KX4.out.lt)
  have R5 := Lib.hid r
  have HL5 := Lib.hid (show L5.length ≤ 24 by rw [hL5, List.length_append]; have := puts_len [m.c.st, m.c.pid, m.c.ep, m.c.tm, m.c.th, (m.c.qs.length : Int)] HZ.out; have := HL4.out; (try simp only [List.length_cons, List.length_nil] at this); (try simp only [List.length_cons, List.length_nil] at *); omega)
  have HQ5 := Lib.hid hL5
  have KC5 := Lib.hid (KC4.out.below b' KC4.out.lt)
  clear r b b' hL5 PU HZ BA z0 z1 z2 z3 z4 z6 stc xco
  have z6 : w5.cell? ⟨w3.heap.size, 6, none⟩ = some (.slice D m.c.qs.length e) := KC5.out.cell 6
  have HDn := Lib.hid (HD.out.below B5.out)
  go_wp2_with fail
  clear z6
  go_loopg [4, 6] m.c.qs.length (fun mm v y wq => ∃ (k : Nat) (A9 : Option Addr) (c9 : Nat) (L9 : List UInt8), k ≤ m.c.qs.length ∧ y = .int .i64 k ∧ mm = m.c.qs.length - k ∧ L9 = L5 ++ (m.c.qs.take k).flatMap cPn.e ∧ v = .slice A9 L9.length c9 ∧ Reads wq wq.heap.size 1 A9 L9.length (cellsB L9) ∧ Below w5.heap.size w5 wq)
  case atStart => exact ⟨0, A5, c5, L5, Nat.zero_le _, rfl, by omega, by simp, rfl, R5.out, Below.refl _ _⟩
  case round =>
    obtain ⟨k, A9, c9, L9, hk, rfl, hmm, hL9, rfl, hr9, hb9⟩ := hrel
    have HMM := Lib.hid hmm
    have R9 := Lib.hid hr9
    have B9 := Lib.hid hb9
    have HQ9 := Lib.hid hL9
    have hlen9 : L9.length ≤ 200 := by
      rw [hL9]
      have := flat_le cPn.e 9 (m.c.qs.take k) (fun x hx => cPn_len (cPn_v (List.all_eq_true.1 HX.out.2.2.2.2.2.2.1 x (List.mem_of_mem_take hx))))
      have h6 := HX.out.2.2.2.2.2.2.2
      have h7 : (m.c.qs.take k).length ≤ 6 := by rw [List.length_take]; omega
      have := HL5.out
      rw [List.length_append]; omega
    have HN9 := Lib.hid hlen9
    clear hmm hr9 hb9 hL9 hlen9
    by_cases hlt : k < m.c.qs.length
    · have d3 : decide ((k : Int) < (m.c.qs.length : Int)) = true := decide_eq_true (by omega)
      have i1 : (0 : Int) ≤ (k : Int) := by omega
      have i2 : (k : Int) < (m.c.qs.length : Int) := by omega
      obtain ⟨p, hp⟩ : ∃ p, m.c.qs[k]? = some p := ⟨_, List.getElem?_eq_getElem hlt⟩
      have hpb := (pn_iff p).1 (List.all_eq_true.1 HX.out.2.2.2.2.2.2.1 p (List.mem_of_getElem? hp))
      obtain ⟨bD, off, hDe, hbD, hcells⟩ := HDn.out.plain3 (by omega)
      obtain ⟨c0, c1, c2⟩ := hcells k p hp
      have hbD2 : bD < w5.heap.size := by have := B5.out.size; omega
      have z6 : wr.cell? ⟨w3.heap.size, 6, none⟩ = some (.slice D m.c.qs.length e) := (KC5.out.below B9.out KC5.out.lt).cell 6
      rw [hDe] at z6
      have CF := Lib.hid (show ∀ W, Below wr.drew.heap.size wr.drew W → W.cell? ⟨w3.heap.size, 6, none⟩ = some (.slice (some ⟨bD, off, none⟩) m.c.qs.length e) ∧ (W.cell? ⟨bD, off + k * 3, none⟩ = some (.int .i64 p.1) ∧ (W.cell? ⟨bD, off + k * 3 + 1, none⟩ = some (.int .i64 p.2.1) ∧ W.cell? ⟨bD, off + k * 3 + 2, none⟩ = some (.int .i64 p.2.2))) from by
        intro W hW
        have hlt9 : bD < wr.drew.heap.size := Nat.lt_of_lt_of_le hbD2 B9.out.size
        have hlc : w3.heap.size < wr.drew.heap.size := Nat.lt_of_lt_of_le KC5.out.lt B9.out.size
        exact ⟨(hW.cell (p := ⟨w3.heap.size, 6, none⟩) hlc).trans z6, (hW.cell (p := ⟨bD, off + k * 3, none⟩) hlt9).trans ((B9.out.cell (p := ⟨bD, off + k * 3, none⟩) hbD2).trans c0), (hW.cell (p := ⟨bD, off + k * 3 + 1, none⟩) hlt9).trans ((B9.out.cell (p := ⟨bD, off + k * 3 + 1, none⟩) hbD2).trans c1), (hW.cell (p := ⟨bD, off + k * 3 + 2, none⟩) hlt9).trans ((B9.out.cell (p := ⟨bD, off + k * 3 + 2, none⟩) hbD2).trans c2)⟩)
      have HZ := Lib.hid (show ∀ z ∈ ([p.1, p.2.1, p.2.2] : List Int), 0 ≤ z ∧ z ≤ 1048577 by simp only [List.mem_cons, List.not_mem_nil, or_false]; rintro z hz; omega)
      have BA := Lib.hid (bal (Below.refl wr.drew.heap.size wr.drew) (.cells #[.int .i64 p.1, .int .i64 p.2.1, .int .i64 p.2.2] 3))
      have PU := Lib.hid (rput_any A9 L9 c9 wr.drew.heap.size [p.1, p.2.1, p.2.2] 3 (wr.drew.alloc (.cells #[.int .i64 p.1, .int .i64 p.2.1, .int .i64 p.2.2] 3)) ((R9.out.drew.alloc (Nat.le_refl _) _).more (by simp)) (by simp) (ints_newM wr.drew [p.1, p.2.1, p.2.2] 3 _ rfl) HZ.out (by have := HN9.out; simp only [List.length_cons, List.length_nil]; omega))
      have HDE := Lib.hid hDe
      have HP := Lib.hid hp
      clear hp hpb hcells c0 c1 c2 hbD2 hDe
      go_wp2_with fail
      clear z6
      go_region_held3 (fun W => W.cell? ⟨w3.heap.size, 6, none⟩ = some (.slice (some ⟨bD, off, none⟩) m.c.qs.length e) ∧ (W.cell? ⟨bD, off + k * 3, none⟩ = some (.int .i64 p.1) ∧ (W.cell? ⟨bD, off + k * 3 + 1, none⟩ = some (.int .i64 p.2.1) ∧ W.cell? ⟨bD, off + k * 3 + 2, none⟩ = some (.int .i64 p.2.2))))
        (first | exact CF.out _ (Below.refl _ _) | exact CF.out _ BA.out | exact CF.out _ BQ.out)
        (first | (go_at_call 41; refine PU.out.mono ?_; rintro e w8 ⟨A8, c8, rfl, r8, b8⟩; obtain ⟨L8, hL8⟩ : ∃ L, L = L9 ++ ([p.1, p.2.1, p.2.2] : List Int).flatMap fun z => enc z.toNat := ⟨_, rfl⟩; rw [← hL8] at r8; rw [← hL8]; have HQ8 := Lib.hid hL8; clear hL8; have BQ := Lib.hid (BA.out.trans (b8.mono BA.out.size)); have R8 := Lib.hid r8; clear r8 b8))
      go_wp2_with fail
      go_roundg (m.c.qs.length - k - 1)
      case measure => have := HMM.out; omega
      case rel => have h6 := HX.out.2.2.2.2.2.2.2; exact ⟨k + 1, A8, c8, L8, by omega, by (first | (rw [IntWalk.wrap64_in _ (by omega)]; rfl) | (rw [IntWalk.i64_in _ (by omega)]; rfl)), by omega, by (rw [HQ8.out, HQ9.out, List.take_add_one, HP.out]; simp only [Option.toList_some, List.flatMap_append, List.flatMap_cons, List.flatMap_nil, List.append_nil, List.append_assoc]; rfl), rfl, R8.out, B9.out.drew.trans (BQ.out.mono B9.out.drew.size)⟩
    · have hkn : k = m.c.qs.length := by omega
      have d3 : decide ((k : Int) < (m.c.qs.length : Int)) = false := decide_eq_false (by omega)
      have HF9 := Lib.hid (show L9 = L5 ++ m.c.qs.flatMap cPn.e by rw [HQ9.out, hkn, List.take_length])
      have z6 : wr.cell? ⟨w3.heap.size, 6, none⟩ = some (.slice D m.c.qs.length e) := (KC5.out.below B9.out KC5.out.lt).cell 6
      have z7 : wr.cell? ⟨w3.heap.size, 7, none⟩ = some (.int .i64 m.c.ag) := (KC5.out.below B9.out KC5.out.lt).cell 7
      have HZ := Lib.hid (show ∀ z ∈ ([m.c.ag] : List Int), 0 ≤ z ∧ z ≤ 1048577 by have := HX.out; simp only [List.mem_cons, List.not_mem_nil, or_false]; rintro z hz; omega)
      have BA := Lib.hid (bal (Below.refl wr.heap.size wr) (.cells #[.int .i64 m.c.ag] 3))
      have PU := Lib.hid (rput_any A9 L9 c9 wr.heap.size [m.c.ag] 1 (wr.alloc (.cells #[.int .i64 m.c.ag] 3)) ((R9.out.alloc (Nat.le_refl _) _).more (by simp)) (by simp) (ints_newM wr [m.c.ag] 3 _ rfl) HZ.out (by have := HN9.out; simp only [List.length_cons, List.length_nil]; omega))
      clear hkn
      go_wp2_with fail
      refine PU.out.mono ?_
      rintro e w8 ⟨A8, c8, rfl, r8, b8⟩
      obtain ⟨L8, hL8⟩ : ∃ L, L = L9 ++ [m.c.ag].flatMap fun z => enc z.toNat := ⟨_, rfl⟩
      rw [← hL8] at r8 ⊢
      have B8 := Lib.hid ((B5.out.trans (B9.out.mono B5.out.size)).trans ((BA.out.trans (b8.mono BA.out.size)).mono (B5.out.trans (B9.out.mono B5.out.size)).size))
      have t1 := run_string_of (P := Tryz.prog) (src := 75) (dst := 9) (c := c8) Tryz.underlying75 Tryz.underlying5 Tryz.underlying9 r8
      have HE := Lib.hid (show encM m = L8 from by
        have he : encMb m = enc m.tid.toNat ++ (enc (m.c.st).toNat ++ (enc (m.c.pid).toNat ++ (enc (m.c.ep).toNat ++ (enc (m.c.tm).toNat ++ (enc (m.c.th).toNat ++ (enc ((m.c.qs.length : Int)).toNat ++ (m.c.qs.flatMap cPn.e ++ enc m.c.ag.toNat))))))) := by unfold encMb; rw [HKK.out]; rfl
        unfold encM
        rw [HKK.out, he, hL8, HF9.out, HQ5.out, HQ3.out, HQ2.out]
        simp only [List.flatMap_cons, List.flatMap_nil, List.append_nil, List.nil_append, List.append_assoc])
      clear r8 b8 hL8
      go_wp2_with fail
      go_ret2
      exact ⟨by rw [HE.out]; rfl, B8.out⟩
set_option maxRecDepth 100000 in
set_option maxHeartbeats 8000000 in
theorem rMtBytes_7 (m : Mt) (A D : Option Addr) (c e : Nat) (w : World) (hk : m.kd = 7) (h : CoR w w.heap.size m.c A D) (h8 : -128 ≤ m.c.st) (h9 : m.c.st ≤ 127) (hm : mayM m = true) (ht : 0 ≤ m.tid ∧ m.tid ≤ 1048576) (hn : 0 ≤ m.nx ∧ m.nx ≤ 1048576) :
    Calls Tryz.prog 17 #[.agg (mtX m A D c e)] w (MbPost (bs (encM m)) 0 w) := by
  obtain ⟨W0, hW0⟩ : ∃ W0, W0 = w.alloc (.cells (mtX m A D c e) 42) := ⟨_, rfl⟩
  have B0 : Below w.heap.size w W0 := by rw [hW0]; exact bal (Below.refl _ _) _
  have K0 : Blk W0 w.heap.size 42 (mtX m A D c e) := by rw [hW0]; exact Blk.new w 42 _
  have l0 := mt_load (P := Tryz.prog) K0
  have MY := Lib.hid (rMayM_all m A D c e W0.heap.size W0 (h.up B0) (Nat.le_refl _) h8 h9)
  rw [hm] at MY
  have HB := Lib.hid B0
  have HK := Lib.hid K0
  have HW := Lib.hid hW0
  have HT := Lib.hid ht
  have HD := Lib.hid h.2.1
  have HKK := Lib.hid hk
  have HN := Lib.hid hn
  clear hW0 B0 K0 h hm ht hk h8 h9 hn
  go_enter Tryz.func17, Tryz.ntmps17
  go_upto_region 1 with (fail)
  rw [← HW.out]
  go_wp2_with fail
  refine MY.out.mono ?_
  rintro e w1 ⟨rfl, b1⟩
  have B1 := Lib.hid (HB.out.trans (b1.mono HB.out.size))
  have KX1 := Lib.hid (HK.out.below b1 HK.out.lt)
  have R1 := Lib.hid (show Reads w1 w1.heap.size 1 none ([] : List UInt8).length (cellsB []) from Reads.none_)
  have HL1 := Lib.hid (show ([] : List UInt8).length ≤ 0 from Nat.le_refl _)
  clear b1 l0
  have x0 : w1.cell? ⟨w.heap.size, 0, none⟩ = some (.int .i8 7) := by rw [← HKK.out]; exact mt_cell KX1.out (j := 0) rfl
  have HZ := Lib.hid (show ∀ z ∈ ([7] : List Int), 0 ≤ z ∧ z ≤ 1048577 by have := HKK.out; simp only [List.mem_cons, List.not_mem_nil, or_false]; rintro z hz; omega)
  have BA := Lib.hid (bal (Below.refl w1.heap.size w1) (.cells #[.int .i64 (7)] 3))
  have PU := Lib.hid (rput_any none [] 0 w1.heap.size [7] 1 (w1.alloc (.cells #[.int .i64 (7)] 3)) ((R1.out.alloc (Nat.le_refl _) _).more (by simp)) (by simp) (ints_newM w1 [7] 3 _ rfl) HZ.out (by have := HL1.out; (try simp only [List.length_cons, List.length_nil] at this ⊢); (try simp only [List.length_cons, List.length_nil]); omega))
  go_wp2_with fail
  refine PU.out.mono ?_
  rintro e w2 ⟨A2, c2, rfl, r, b⟩
  obtain ⟨L2, hL2⟩ : ∃ L, L = [] ++ ([7] : List Int).flatMap fun z => enc z.toNat := ⟨_, rfl⟩
  rw [← hL2] at r ⊢
  have b' := BA.out.trans (b.mono BA.out.size)
  have B2 := Lib.hid (B1.out.trans (b'.mono B1.out.size))
  have KX2 := Lib.hid (KX1.out.below b' KX1.out.lt)
  have R2 := Lib.hid r
  have HL2 := Lib.hid (show L2.length ≤ 3 by rw [hL2, List.length_append]; have := puts_len [7] HZ.out; have := HL1.out; (try simp only [List.length_cons, List.length_nil] at this); (try simp only [List.length_cons, List.length_nil] at *); omega)
  have HQ2 := Lib.hid hL2
  clear r b b' hL2 PU HZ BA x0
  have xk : w2.cell? ⟨w.heap.size, 0, none⟩ = some (.int .i8 7) := by rw [← HKK.out]; exact mt_cell KX2.out (j := 0) rfl
  have x0 : w2.cell? ⟨w.heap.size, 16, none⟩ = some (.int .i64 m.nx) := mt_cell KX2.out (j := 16) rfl
  have HZ := Lib.hid (show ∀ z ∈ ([m.nx] : List Int), 0 ≤ z ∧ z ≤ 1048577 by have := HN.out; simp only [List.mem_cons, List.not_mem_nil, or_false]; rintro z hz; omega)
  have BA := Lib.hid (bal (Below.refl w2.heap.size w2) (.cells #[.int .i64 (m.nx)] 3))
  have PU := Lib.hid (rput_any A2 L2 c2 w2.heap.size [m.nx] 1 (w2.alloc (.cells #[.int .i64 (m.nx)] 3)) ((R2.out.alloc (Nat.le_refl _) _).more (by simp)) (by simp) (ints_newM w2 [m.nx] 3 _ rfl) HZ.out (by have := HL2.out; (try simp only [List.length_cons, List.length_nil] at this ⊢); (try simp only [List.length_cons, List.length_nil]); omega))
  go_wp2_with fail
  refine PU.out.mono ?_
  rintro e w3 ⟨A3, c3, rfl, r, b⟩
  obtain ⟨L3, hL3⟩ : ∃ L, L = L2 ++ ([m.nx] : List Int).flatMap fun z => enc z.toNat := ⟨_, rfl⟩
  rw [← hL3] at r ⊢
  have b' := BA.out.trans (b.mono BA.out.size)
  have B3 := Lib.hid (B2.out.trans (b'.mono B2.out.size))
  have KX3 := Lib.hid (KX2.out.below b' KX2.out.lt)
  have R3 := Lib.hid r
  have HL3 := Lib.hid (show L3.length ≤ 6 by rw [hL3, List.length_append]; have := puts_len [m.nx] HZ.out; have := HL2.out; (try simp only [List.length_cons, List.length_nil] at this); (try simp only [List.length_cons, List.length_nil] at *); omega)
  have HQ3 := Lib.hid hL3
  clear r b b' hL3 PU HZ BA x0
  have xk : w3.cell? ⟨w.heap.size, 0, none⟩ = some (.int .i8 7) := by rw [← HKK.out]; exact mt_cell KX3.out (j := 0) rfl
  have t1 := run_string_of (P := Tryz.prog) (src := 75) (dst := 9) (c := c3) Tryz.underlying75 Tryz.underlying5 Tryz.underlying9 R3.out
  have HE := Lib.hid (show encM m = L3 from by
    have he : encMb m = enc (m.nx).toNat := by unfold encMb; rw [HKK.out]; rfl
    unfold encM
    rw [HKK.out, he, HQ3.out, HQ2.out]
    simp only [List.flatMap_cons, List.flatMap_nil, List.append_nil, List.nil_append, List.append_assoc])
  go_wp2_with fail
  go_ret2
  exact ⟨by rw [HE.out]; rfl, B3.out⟩
theorem rMtBytes_any (m : Mt) (A D : Option Addr) (c e : Nat) (w : World) (h : CoR w w.heap.size m.c A D) (h8 : -128 ≤ m.c.st) (h9 : m.c.st ≤ 127) :
    Calls Tryz.prog 17 #[.agg (mtX m A D c e)] w (MbPost (bytesM m).1 (bytesM m).2 w) := by
  unfold bytesM
  cases hm : mayM m
  · exact rMtBytes_no m A D c e w h h8 h9 hm
  obtain ⟨_, h1, h2, h3⟩ := mayM_bare hm
  have ht : 0 ≤ m.tid ∧ m.tid ≤ 1048576 := by omega
  unfold fitM at h3
  by_cases k0 : m.kd = 0
  · exact rMtBytes_0 m A D c e w k0 h h8 h9 hm ht
  by_cases k4 : m.kd = 4
  · exact rMtBytes_4 m A D c e w k4 h h8 h9 hm ht
  rw [if_neg (by omega)] at h3
  by_cases k1 : m.kd = 1
  · rw [if_pos k1] at h3
    simp only [Bool.and_eq_true, decide_eq_true_eq] at h3
    exact rMtBytes_1 m A D c e w k1 h h8 h9 hm ht (by omega)
  rw [if_neg k1] at h3
  by_cases k25 : m.kd = 2 ∨ m.kd = 5
  · rw [if_pos k25] at h3
    unfold pendB partB at h3
    simp only [Bool.and_eq_true, decide_eq_true_eq] at h3
    rcases k25 with k2 | k5
    · exact rMtBytes_2 m A D c e w k2 h h8 h9 hm ht (by omega)
    · exact rMtBytes_5 m A D c e w k5 h h8 h9 hm ht (by omega)
  rw [if_neg k25] at h3
  by_cases k3 : m.kd = 3
  · rw [if_pos k3] at h3
    simp only [Bool.and_eq_true, decide_eq_true_eq] at h3
    exact rMtBytes_3 m A D c e w k3 h h8 h9 hm ht (by omega)
  rw [if_neg k3] at h3
  by_cases k6 : m.kd = 6
  · rw [if_pos k6, Bool.and_eq_true] at h3
    exact rMtBytes_6 m A D c e w k6 h h8 h9 hm ht h3.2
  rw [if_neg k6] at h3
  by_cases k7 : m.kd = 7
  · rw [if_pos k7] at h3
    simp only [Bool.and_eq_true, decide_eq_true_eq] at h3
    exact rMtBytes_7 m A D c e w k7 h h8 h9 hm ht (by omega)
  · rw [if_neg k7] at h3
    cases h3
end
end Go.Proofs.YtbpkckahonmpkaaGreatDoor
