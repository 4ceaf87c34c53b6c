/-
  Layer 20: what becomes of a transactional id, by the document (move).
-/
import Derived.Test.YtbpkckahonmpkaaGreatDoorMeFoldsProofP18
import Derived.Lib.MinMax
set_option linter.unusedVariables false
set_option linter.unusedSimpArgs false
namespace Go.Proofs.YtbpkckahonmpkaaGreatDoor
open Go.RowKit
def RmP (c : Co) (A D : Option Addr) (m : Mt) (A2 D2 : Option Addr) (d : Co) (n : Int) (w : World) (e : Ending) (w' : World) : Prop :=
  ∃ (A5 D5 : Option Addr) (c5 e5 : Nat), e = .returned (.tuple #[(.agg #[.int .i8 d.st, .int .i64 d.pid, .int .i64 d.ep, .int .i64 d.tm, .int .i64 d.th, .slice A5 d.ps.length c5, .slice D5 d.qs.length e5, .int .i64 d.ag]), .int .i64 n]) ∧ CoR w' w'.heap.size d A5 D5 ∧ Below w.heap.size w w' ∧ ∀ b, b < w.heap.size → OffB b c.ps.length A → OffB b c.qs.length D → OffB b m.c.ps.length A2 → OffB b m.c.qs.length D2 → OffB b d.ps.length A5 ∧ OffB b d.qs.length D5
section
attribute [-go_sem] loadCells storeVar
set_option maxRecDepth 100000 in
theorem rmove_ret (x : Co) (A5 D5 : Option Addr) (c5 e5 : Nat) (n : Int) (tmps : Array Value) (b : Nat) (W : World) (h2 : tmps[6]?.getD undef = .pointer (some ⟨b, 0, none⟩)) (h3 : tmps[7]?.getD undef = .int .i64 n) (hK : Blk W b 29 #[.int .i8 x.st, .int .i64 x.pid, .int .i64 x.ep, .int .i64 x.tm, .int .i64 x.th, .slice A5 x.ps.length c5, .slice D5 x.qs.length e5, .int .i64 x.ag]) :
    (results Tryz.f66 tmps).run Tryz.prog W = .ok (.tuple #[(.agg #[.int .i8 x.st, .int .i64 x.pid, .int .i64 x.ep, .int .i64 x.tm, .int .i64 x.th, .slice A5 x.ps.length c5, .slice D5 x.qs.length e5, .int .i64 x.ag]), .int .i64 n]) W := by
  have LC := bk_load (P := Tryz.prog) 8 hK rfl
  clear hK
  simp [results, Tryz.results66, go_sem, h2, h3, LC]
set_option maxRecDepth 100000 in
set_option maxHeartbeats 4000000 in
theorem rmove_1 (c : Co) (A1 D1 : Option Addr) (c1 e1 : Nat) (m : Mt) (A2 D2 : Option Addr) (c2 e2 : Nat) (made : Int) (w : World) (h1 : CoR w w.heap.size c A1 D1) (h2 : CoR w w.heap.size m.c A2 D2) (h8 : -128 ≤ c.st) (h9 : c.st ≤ 127) (hm0 : 0 ≤ made) (hm8 : made ≤ 8) (hk : m.kd = 1) :
    Calls Tryz.prog 66 #[.agg #[.int .i8 c.st, .int .i64 c.pid, .int .i64 c.ep, .int .i64 c.tm, .int .i64 c.th, .slice A1 c.ps.length c1, .slice D1 c.qs.length e1, .int .i64 c.ag], .agg (mtX m A2 D2 c2 e2), .int .i64 made] w (RmP c A1 D1 m A2 D2 (initC c (min (made + 1) 8) m.tm) (initE c (min (made + 1) 8) m.tm) w) := by
  obtain ⟨W0, hW0⟩ : ∃ W0, W0 = ((w.alloc (.cells #[.int .i8 c.st, .int .i64 c.pid, .int .i64 c.ep, .int .i64 c.tm, .int .i64 c.th, .slice A1 c.ps.length c1, .slice D1 c.qs.length e1, .int .i64 c.ag] 29)).alloc (.cells (mtX m A2 D2 c2 e2) 42)).alloc (.cells #[.int .i8 0, .int .i64 0, .int .i64 0, .int .i64 0, .int .i64 0, .slice none 0 0, .slice none 0 0, .int .i64 0] 29) := ⟨_, rfl⟩
  have s0 : W0.heap.size = w.heap.size + 1 + 1 + 1 := by rw [hW0]; simp
  have B0 : Below w.heap.size w W0 := by rw [hW0]; exact bal (bal (bal (Below.refl _ _) _) _) _
  have K1 : Blk W0 w.heap.size 29 #[.int .i8 c.st, .int .i64 c.pid, .int .i64 c.ep, .int .i64 c.tm, .int .i64 c.th, .slice A1 c.ps.length c1, .slice D1 c.qs.length e1, .int .i64 c.ag] := by rw [hW0]; exact ((Blk.new w 29 _).alloc _).alloc _
  have K2 : Blk W0 (w.heap.size + 1) 42 (mtX m A2 D2 c2 e2) := by rw [hW0]; exact (bk_new _ 42 _ (by simp)).alloc _
  have K3 : Blk W0 (w.heap.size + 1 + 1) 29 #[.int .i8 0, .int .i64 0, .int .i64 0, .int .i64 0, .int .i64 0, .slice none 0 0, .slice none 0 0, .int .i64 0] := by rw [hW0]; exact bk_new _ 29 _ (by simp)
  have HW := Lib.hid hW0
  have HS := Lib.hid s0
  have HB := Lib.hid B0
  have HK3 := Lib.hid K3
  have H1 := Lib.hid h1
  have H2 := Lib.hid h2
  have L0 := bk_load (P := Tryz.prog) 8 K1 rfl
  have x0 := mt_cell K2 (j := 0) rfl
  have cc1 : (m.kd == 1) = true := by rw [hk]; rfl
  have cc2 : (m.kd == 2) = false := by rw [hk]; rfl
  have cc3 : (m.kd == 3) = false := by rw [hk]; rfl
  have cc4 : (m.kd == 4) = false := by rw [hk]; rfl
  have xt := mt_cell K2 (j := 2) rfl
  have ew : IntKind.i64.wrap (made + 1) = made + 1 := IntWalk.i64_in _ (by omega)
  obtain ⟨d, hd⟩ : ∃ d, initC c (min (made + 1) 8) m.tm = d := ⟨_, rfl⟩
  obtain ⟨n, hn⟩ : ∃ n, initE c (min (made + 1) 8) m.tm = n := ⟨_, rfl⟩
  have ca := rInit_any c A1 D1 c1 e1 (min (made + 1) 8) m.tm W0 (h1.up B0) h8 h9
  rw [hd, hn] at ca ⊢
  have CA := Lib.hid ca
  clear ca hd hn hW0 s0 B0 K1 K2 K3 h1 h2 hk h8 h9 hm0 hm8
  go_enter Tryz.func66, Tryz.ntmps66
  go_upto_region 1 with (fail)
  rw [← HW.out]
  go_wp2_with fail
  refine CA.out.mono ?_
  rintro e w1 ⟨A5, D5, c5, e5, rfl, r5, b5, off5⟩
  obtain ⟨W2, st, kk, fb, fh, fs⟩ := bk_store (P := Tryz.prog) (ty := 29) (cs := #[.int .i8 d.st, .int .i64 d.pid, .int .i64 d.ep, .int .i64 d.tm, .int .i64 d.th, .slice A5 d.ps.length c5, .slice D5 d.qs.length e5, .int .i64 d.ag]) 8 (HK3.out.below b5 HK3.out.lt) infoCoS rfl rfl (by simp [Value.oneCell'])
  have BB := Lib.hid (fb w.heap.size w (by omega) (HB.out.trans (b5.mono HB.out.size)))
  have KK := Lib.hid kk
  have OFF := Lib.hid off5
  have RR := Lib.hid (show CoR W2 W2.heap.size d A5 D5 by
    have ho := off5 (w.heap.size + 1 + 1) HK3.out.lt (H1.out.1.offB (by omega)) (H1.out.2.1.offB (by omega))
    exact r5.keepB ho.1 ho.2 (But.one fh fs).keep (But.one fh fs).size)
  clear kk fb fh fs r5 b5 off5
  go_wp2_with fail
  refine bodyPost_ret (v := .tuple #[.agg #[.int .i8 d.st, .int .i64 d.pid, .int .i64 d.ep, .int .i64 d.tm, .int .i64 d.th, .slice A5 d.ps.length c5, .slice D5 d.qs.length e5, .int .i64 d.ag], .int .i64 n]) (rmove_ret d A5 D5 c5 e5 _ _ (w.heap.size + 1 + 1) _ rfl rfl KK.out) rfl ?_
  exact ⟨A5, D5, c5, e5, rfl, RR.out, BB.out, fun b hb o1 o2 _ _ => OFF.out b (by have := HS.out; omega) o1 o2⟩
set_option maxRecDepth 100000 in
set_option maxHeartbeats 4000000 in
theorem rmove_2 (c : Co) (A1 D1 : Option Addr) (c1 e1 : Nat) (m : Mt) (A2 D2 : Option Addr) (c2 e2 : Nat) (made : Int) (w : World) (h1 : CoR w w.heap.size c A1 D1) (h2 : CoR w w.heap.size m.c A2 D2) (h8 : -128 ≤ c.st) (h9 : c.st ≤ 127) (hm0 : 0 ≤ made) (hm8 : made ≤ 8) (hk : m.kd = 2) :
    Calls Tryz.prog 66 #[.agg #[.int .i8 c.st, .int .i64 c.pid, .int .i64 c.ep, .int .i64 c.tm, .int .i64 c.th, .slice A1 c.ps.length c1, .slice D1 c.qs.length e1, .int .i64 c.ag], .agg (mtX m A2 D2 c2 e2), .int .i64 made] w (RmP c A1 D1 m A2 D2 (setC c m.p) (setE c m.p) w) := by
  obtain ⟨W0, hW0⟩ : ∃ W0, W0 = ((w.alloc (.cells #[.int .i8 c.st, .int .i64 c.pid, .int .i64 c.ep, .int .i64 c.tm, .int .i64 c.th, .slice A1 c.ps.length c1, .slice D1 c.qs.length e1, .int .i64 c.ag] 29)).alloc (.cells (mtX m A2 D2 c2 e2) 42)).alloc (.cells #[.int .i8 0, .int .i64 0, .int .i64 0, .int .i64 0, .int .i64 0, .slice none 0 0, .slice none 0 0, .int .i64 0] 29) := ⟨_, rfl⟩
  have s0 : W0.heap.size = w.heap.size + 1 + 1 + 1 := by rw [hW0]; simp
  have B0 : Below w.heap.size w W0 := by rw [hW0]; exact bal (bal (bal (Below.refl _ _) _) _) _
  have K1 : Blk W0 w.heap.size 29 #[.int .i8 c.st, .int .i64 c.pid, .int .i64 c.ep, .int .i64 c.tm, .int .i64 c.th, .slice A1 c.ps.length c1, .slice D1 c.qs.length e1, .int .i64 c.ag] := by rw [hW0]; exact ((Blk.new w 29 _).alloc _).alloc _
  have K2 : Blk W0 (w.heap.size + 1) 42 (mtX m A2 D2 c2 e2) := by rw [hW0]; exact (bk_new _ 42 _ (by simp)).alloc _
  have K3 : Blk W0 (w.heap.size + 1 + 1) 29 #[.int .i8 0, .int .i64 0, .int .i64 0, .int .i64 0, .int .i64 0, .slice none 0 0, .slice none 0 0, .int .i64 0] := by rw [hW0]; exact bk_new _ 29 _ (by simp)
  have HW := Lib.hid hW0
  have HS := Lib.hid s0
  have HB := Lib.hid B0
  have HK3 := Lib.hid K3
  have H1 := Lib.hid h1
  have H2 := Lib.hid h2
  have L0 := bk_load (P := Tryz.prog) 8 K1 rfl
  have x0 := mt_cell K2 (j := 0) rfl
  have cc1 : (m.kd == 1) = false := by rw [hk]; rfl
  have cc2 : (m.kd == 2) = true := by rw [hk]; rfl
  have cc3 : (m.kd == 3) = false := by rw [hk]; rfl
  have cc4 : (m.kd == 4) = false := by rw [hk]; rfl
  have xt := mt_pend (P := Tryz.prog) K2
  obtain ⟨d, hd⟩ : ∃ d, setC c m.p = d := ⟨_, rfl⟩
  obtain ⟨n, hn⟩ : ∃ n, setE c m.p = n := ⟨_, rfl⟩
  have ca := rSet_any c A1 D1 c1 e1 m.p W0 (h1.up B0) h8 h9
  rw [hd, hn] at ca ⊢
  have CA := Lib.hid ca
  clear ca hd hn hW0 s0 B0 K1 K2 K3 h1 h2 hk h8 h9 hm0 hm8
  go_enter Tryz.func66, Tryz.ntmps66
  go_upto_region 1 with (fail)
  rw [← HW.out]
  go_wp2_with fail
  refine CA.out.mono ?_
  rintro e w1 ⟨A5, D5, c5, e5, rfl, r5, b5, off5⟩
  obtain ⟨W2, st, kk, fb, fh, fs⟩ := bk_store (P := Tryz.prog) (ty := 29) (cs := #[.int .i8 d.st, .int .i64 d.pid, .int .i64 d.ep, .int .i64 d.tm, .int .i64 d.th, .slice A5 d.ps.length c5, .slice D5 d.qs.length e5, .int .i64 d.ag]) 8 (HK3.out.below b5 HK3.out.lt) infoCoS rfl rfl (by simp [Value.oneCell'])
  have BB := Lib.hid (fb w.heap.size w (by omega) (HB.out.trans (b5.mono HB.out.size)))
  have KK := Lib.hid kk
  have OFF := Lib.hid off5
  have RR := Lib.hid (show CoR W2 W2.heap.size d A5 D5 by
    have ho := off5 (w.heap.size + 1 + 1) HK3.out.lt (H1.out.1.offB (by omega)) (H1.out.2.1.offB (by omega))
    exact r5.keepB ho.1 ho.2 (But.one fh fs).keep (But.one fh fs).size)
  clear kk fb fh fs r5 b5 off5
  go_wp2_with fail
  refine bodyPost_ret (v := .tuple #[.agg #[.int .i8 d.st, .int .i64 d.pid, .int .i64 d.ep, .int .i64 d.tm, .int .i64 d.th, .slice A5 d.ps.length c5, .slice D5 d.qs.length e5, .int .i64 d.ag], .int .i64 n]) (rmove_ret d A5 D5 c5 e5 _ _ (w.heap.size + 1 + 1) _ rfl rfl KK.out) rfl ?_
  exact ⟨A5, D5, c5, e5, rfl, RR.out, BB.out, fun b hb o1 o2 _ _ => OFF.out b (by have := HS.out; omega) o1 o2⟩
set_option maxRecDepth 100000 in
set_option maxHeartbeats 4000000 in
theorem rmove_3 (c : Co) (A1 D1 : Option Addr) (c1 e1 : Nat) (m : Mt) (A2 D2 : Option Addr) (c2 e2 : Nat) (made : Int) (w : World) (h1 : CoR w w.heap.size c A1 D1) (h2 : CoR w w.heap.size m.c A2 D2) (h8 : -128 ≤ c.st) (h9 : c.st ≤ 127) (hm0 : 0 ≤ made) (hm8 : made ≤ 8) (hk : m.kd = 3) :
    Calls Tryz.prog 66 #[.agg #[.int .i8 c.st, .int .i64 c.pid, .int .i64 c.ep, .int .i64 c.tm, .int .i64 c.th, .slice A1 c.ps.length c1, .slice D1 c.qs.length e1, .int .i64 c.ag], .agg (mtX m A2 D2 c2 e2), .int .i64 made] w (RmP c A1 D1 m A2 D2 (prepC c m.yes m.th) (prepE c m.yes m.th) w) := by
  obtain ⟨W0, hW0⟩ : ∃ W0, W0 = ((w.alloc (.cells #[.int .i8 c.st, .int .i64 c.pid, .int .i64 c.ep, .int .i64 c.tm, .int .i64 c.th, .slice A1 c.ps.length c1, .slice D1 c.qs.length e1, .int .i64 c.ag] 29)).alloc (.cells (mtX m A2 D2 c2 e2) 42)).alloc (.cells #[.int .i8 0, .int .i64 0, .int .i64 0, .int .i64 0, .int .i64 0, .slice none 0 0, .slice none 0 0, .int .i64 0] 29) := ⟨_, rfl⟩
  have s0 : W0.heap.size = w.heap.size + 1 + 1 + 1 := by rw [hW0]; simp
  have B0 : Below w.heap.size w W0 := by rw [hW0]; exact bal (bal (bal (Below.refl _ _) _) _) _
  have K1 : Blk W0 w.heap.size 29 #[.int .i8 c.st, .int .i64 c.pid, .int .i64 c.ep, .int .i64 c.tm, .int .i64 c.th, .slice A1 c.ps.length c1, .slice D1 c.qs.length e1, .int .i64 c.ag] := by rw [hW0]; exact ((Blk.new w 29 _).alloc _).alloc _
  have K2 : Blk W0 (w.heap.size + 1) 42 (mtX m A2 D2 c2 e2) := by rw [hW0]; exact (bk_new _ 42 _ (by simp)).alloc _
  have K3 : Blk W0 (w.heap.size + 1 + 1) 29 #[.int .i8 0, .int .i64 0, .int .i64 0, .int .i64 0, .int .i64 0, .slice none 0 0, .slice none 0 0, .int .i64 0] := by rw [hW0]; exact bk_new _ 29 _ (by simp)
  have HW := Lib.hid hW0
  have HS := Lib.hid s0
  have HB := Lib.hid B0
  have HK3 := Lib.hid K3
  have H1 := Lib.hid h1
  have H2 := Lib.hid h2
  have L0 := bk_load (P := Tryz.prog) 8 K1 rfl
  have x0 := mt_cell K2 (j := 0) rfl
  have cc1 : (m.kd == 1) = false := by rw [hk]; rfl
  have cc2 : (m.kd == 2) = false := by rw [hk]; rfl
  have cc3 : (m.kd == 3) = true := by rw [hk]; rfl
  have cc4 : (m.kd == 4) = false := by rw [hk]; rfl
  have xt := mt_cell K2 (j := 6) rfl
  have xu := mt_cell K2 (j := 7) rfl
  obtain ⟨d, hd⟩ : ∃ d, prepC c m.yes m.th = d := ⟨_, rfl⟩
  obtain ⟨n, hn⟩ : ∃ n, prepE c m.yes m.th = n := ⟨_, rfl⟩
  have ca := rPrep_any c A1 D1 c1 e1 m.yes m.th W0 (h1.up B0) h8 h9
  rw [hd, hn] at ca ⊢
  have CA := Lib.hid ca
  clear ca hd hn hW0 s0 B0 K1 K2 K3 h1 h2 hk h8 h9 hm0 hm8
  go_enter Tryz.func66, Tryz.ntmps66
  go_upto_region 1 with (fail)
  rw [← HW.out]
  go_wp2_with fail
  refine CA.out.mono ?_
  rintro e w1 ⟨A5, D5, c5, e5, rfl, r5, b5, off5⟩
  obtain ⟨W2, st, kk, fb, fh, fs⟩ := bk_store (P := Tryz.prog) (ty := 29) (cs := #[.int .i8 d.st, .int .i64 d.pid, .int .i64 d.ep, .int .i64 d.tm, .int .i64 d.th, .slice A5 d.ps.length c5, .slice D5 d.qs.length e5, .int .i64 d.ag]) 8 (HK3.out.below b5 HK3.out.lt) infoCoS rfl rfl (by simp [Value.oneCell'])
  have BB := Lib.hid (fb w.heap.size w (by omega) (HB.out.trans (b5.mono HB.out.size)))
  have KK := Lib.hid kk
  have OFF := Lib.hid off5
  have RR := Lib.hid (show CoR W2 W2.heap.size d A5 D5 by
    have ho := off5 (w.heap.size + 1 + 1) HK3.out.lt (H1.out.1.offB (by omega)) (H1.out.2.1.offB (by omega))
    exact r5.keepB ho.1 ho.2 (But.one fh fs).keep (But.one fh fs).size)
  clear kk fb fh fs r5 b5 off5
  go_wp2_with fail
  refine bodyPost_ret (v := .tuple #[.agg #[.int .i8 d.st, .int .i64 d.pid, .int .i64 d.ep, .int .i64 d.tm, .int .i64 d.th, .slice A5 d.ps.length c5, .slice D5 d.qs.length e5, .int .i64 d.ag], .int .i64 n]) (rmove_ret d A5 D5 c5 e5 _ _ (w.heap.size + 1 + 1) _ rfl rfl KK.out) rfl ?_
  exact ⟨A5, D5, c5, e5, rfl, RR.out, BB.out, fun b hb o1 o2 _ _ => OFF.out b (by have := HS.out; omega) o1 o2⟩
set_option maxRecDepth 100000 in
set_option maxHeartbeats 4000000 in
theorem rmove_4 (c : Co) (A1 D1 : Option Addr) (c1 e1 : Nat) (m : Mt) (A2 D2 : Option Addr) (c2 e2 : Nat) (made : Int) (w : World) (h1 : CoR w w.heap.size c A1 D1) (h2 : CoR w w.heap.size m.c A2 D2) (h8 : -128 ≤ c.st) (h9 : c.st ≤ 127) (hm0 : 0 ≤ made) (hm8 : made ≤ 8) (hk : m.kd = 4) :
    Calls Tryz.prog 66 #[.agg #[.int .i8 c.st, .int .i64 c.pid, .int .i64 c.ep, .int .i64 c.tm, .int .i64 c.th, .slice A1 c.ps.length c1, .slice D1 c.qs.length e1, .int .i64 c.ag], .agg (mtX m A2 D2 c2 e2), .int .i64 made] w (RmP c A1 D1 m A2 D2 (compC c) (chkE c 3 true) w) := by
  obtain ⟨W0, hW0⟩ : ∃ W0, W0 = ((w.alloc (.cells #[.int .i8 c.st, .int .i64 c.pid, .int .i64 c.ep, .int .i64 c.tm, .int .i64 c.th, .slice A1 c.ps.length c1, .slice D1 c.qs.length e1, .int .i64 c.ag] 29)).alloc (.cells (mtX m A2 D2 c2 e2) 42)).alloc (.cells #[.int .i8 0, .int .i64 0, .int .i64 0, .int .i64 0, .int .i64 0, .slice none 0 0, .slice none 0 0, .int .i64 0] 29) := ⟨_, rfl⟩
  have s0 : W0.heap.size = w.heap.size + 1 + 1 + 1 := by rw [hW0]; simp
  have B0 : Below w.heap.size w W0 := by rw [hW0]; exact bal (bal (bal (Below.refl _ _) _) _) _
  have K1 : Blk W0 w.heap.size 29 #[.int .i8 c.st, .int .i64 c.pid, .int .i64 c.ep, .int .i64 c.tm, .int .i64 c.th, .slice A1 c.ps.length c1, .slice D1 c.qs.length e1, .int .i64 c.ag] := by rw [hW0]; exact ((Blk.new w 29 _).alloc _).alloc _
  have K2 : Blk W0 (w.heap.size + 1) 42 (mtX m A2 D2 c2 e2) := by rw [hW0]; exact (bk_new _ 42 _ (by simp)).alloc _
  have K3 : Blk W0 (w.heap.size + 1 + 1) 29 #[.int .i8 0, .int .i64 0, .int .i64 0, .int .i64 0, .int .i64 0, .slice none 0 0, .slice none 0 0, .int .i64 0] := by rw [hW0]; exact bk_new _ 29 _ (by simp)
  have HW := Lib.hid hW0
  have HS := Lib.hid s0
  have HB := Lib.hid B0
  have HK3 := Lib.hid K3
  have H1 := Lib.hid h1
  have H2 := Lib.hid h2
  have L0 := bk_load (P := Tryz.prog) 8 K1 rfl
  have x0 := mt_cell K2 (j := 0) rfl
  have cc1 : (m.kd == 1) = false := by rw [hk]; rfl
  have cc2 : (m.kd == 2) = false := by rw [hk]; rfl
  have cc3 : (m.kd == 3) = false := by rw [hk]; rfl
  have cc4 : (m.kd == 4) = true := by rw [hk]; rfl
  have xt := mt_cell K2 (j := 6) rfl
  obtain ⟨d, hd⟩ : ∃ d, compC c = d := ⟨_, rfl⟩
  obtain ⟨n, hn⟩ : ∃ n, chkE c 3 true = n := ⟨_, rfl⟩
  have ca := rComp_any c A1 D1 c1 e1 W0 (h1.up B0) h8 h9
  rw [hd, hn] at ca ⊢
  have CA := Lib.hid ca
  clear ca hd hn hW0 s0 B0 K1 K2 K3 h1 h2 hk h8 h9 hm0 hm8
  go_enter Tryz.func66, Tryz.ntmps66
  go_upto_region 1 with (fail)
  rw [← HW.out]
  go_wp2_with fail
  refine CA.out.mono ?_
  rintro e w1 ⟨A5, D5, c5, e5, rfl, r5, b5, off5⟩
  obtain ⟨W2, st, kk, fb, fh, fs⟩ := bk_store (P := Tryz.prog) (ty := 29) (cs := #[.int .i8 d.st, .int .i64 d.pid, .int .i64 d.ep, .int .i64 d.tm, .int .i64 d.th, .slice A5 d.ps.length c5, .slice D5 d.qs.length e5, .int .i64 d.ag]) 8 (HK3.out.below b5 HK3.out.lt) infoCoS rfl rfl (by simp [Value.oneCell'])
  have BB := Lib.hid (fb w.heap.size w (by omega) (HB.out.trans (b5.mono HB.out.size)))
  have KK := Lib.hid kk
  have OFF := Lib.hid off5
  have RR := Lib.hid (show CoR W2 W2.heap.size d A5 D5 by
    have ho := off5 (w.heap.size + 1 + 1) HK3.out.lt (H1.out.1.offB (by omega)) (H1.out.2.1.offB (by omega))
    exact r5.keepB ho.1 ho.2 (But.one fh fs).keep (But.one fh fs).size)
  clear kk fb fh fs r5 b5 off5
  go_wp2_with fail
  refine bodyPost_ret (v := .tuple #[.agg #[.int .i8 d.st, .int .i64 d.pid, .int .i64 d.ep, .int .i64 d.tm, .int .i64 d.th, .slice A5 d.ps.length c5, .slice D5 d.qs.length e5, .int .i64 d.ag], .int .i64 n]) (rmove_ret d A5 D5 c5 e5 _ _ (w.heap.size + 1 + 1) _ rfl rfl KK.out) rfl ?_
  exact ⟨A5, D5, c5, e5, rfl, RR.out, BB.out, fun b hb o1 o2 _ _ => OFF.out b (by have := HS.out; omega) o1 o2⟩
set_option maxRecDepth 100000 in
set_option maxHeartbeats 4000000 in
theorem rmove_0 (c : Co) (A1 D1 : Option Addr) (c1 e1 : Nat) (m : Mt) (A2 D2 : Option Addr) (c2 e2 : Nat) (made : Int) (w : World) (h1 : CoR w w.heap.size c A1 D1) (h2 : CoR w w.heap.size m.c A2 D2) (h8 : -128 ≤ c.st) (h9 : c.st ≤ 127) (hm0 : 0 ≤ made) (hm8 : made ≤ 8) (n1 : ¬ m.kd = 1) (n2 : ¬ m.kd = 2) (n3 : ¬ m.kd = 3) (n4 : ¬ m.kd = 4) :
    Calls Tryz.prog 66 #[.agg #[.int .i8 c.st, .int .i64 c.pid, .int .i64 c.ep, .int .i64 c.tm, .int .i64 c.th, .slice A1 c.ps.length c1, .slice D1 c.qs.length e1, .int .i64 c.ag], .agg (mtX m A2 D2 c2 e2), .int .i64 made] w (RmP c A1 D1 m A2 D2 (m.c) (0) w) := by
  obtain ⟨W0, hW0⟩ : ∃ W0, W0 = ((w.alloc (.cells #[.int .i8 c.st, .int .i64 c.pid, .int .i64 c.ep, .int .i64 c.tm, .int .i64 c.th, .slice A1 c.ps.length c1, .slice D1 c.qs.length e1, .int .i64 c.ag] 29)).alloc (.cells (mtX m A2 D2 c2 e2) 42)).alloc (.cells #[.int .i8 0, .int .i64 0, .int .i64 0, .int .i64 0, .int .i64 0, .slice none 0 0, .slice none 0 0, .int .i64 0] 29) := ⟨_, rfl⟩
  have s0 : W0.heap.size = w.heap.size + 1 + 1 + 1 := by rw [hW0]; simp
  have B0 : Below w.heap.size w W0 := by rw [hW0]; exact bal (bal (bal (Below.refl _ _) _) _) _
  have K1 : Blk W0 w.heap.size 29 #[.int .i8 c.st, .int .i64 c.pid, .int .i64 c.ep, .int .i64 c.tm, .int .i64 c.th, .slice A1 c.ps.length c1, .slice D1 c.qs.length e1, .int .i64 c.ag] := by rw [hW0]; exact ((Blk.new w 29 _).alloc _).alloc _
  have K2 : Blk W0 (w.heap.size + 1) 42 (mtX m A2 D2 c2 e2) := by rw [hW0]; exact (bk_new _ 42 _ (by simp)).alloc _
  have K3 : Blk W0 (w.heap.size + 1 + 1) 29 #[.int .i8 0, .int .i64 0, .int .i64 0, .int .i64 0, .int .i64 0, .slice none 0 0, .slice none 0 0, .int .i64 0] := by rw [hW0]; exact bk_new _ 29 _ (by simp)
  have HW := Lib.hid hW0
  have HS := Lib.hid s0
  have HB := Lib.hid B0
  have HK3 := Lib.hid K3
  have H1 := Lib.hid h1
  have H2 := Lib.hid h2
  have L0 := bk_load (P := Tryz.prog) 8 K1 rfl
  have x0 := mt_cell K2 (j := 0) rfl
  have cc1 : (m.kd == 1) = false := by simpa using n1
  have cc2 : (m.kd == 2) = false := by simpa using n2
  have cc3 : (m.kd == 3) = false := by simpa using n3
  have cc4 : (m.kd == 4) = false := by simpa using n4
  have xt := mt_co (P := Tryz.prog) K2
  clear hW0 s0 B0 K1 K2 K3 h1 h2 n1 n2 n3 n4 h8 h9 hm0 hm8
  obtain ⟨W2, st, kk, fb, fh, fs⟩ := bk_store (P := Tryz.prog) (ty := 29) (cs := #[.int .i8 m.c.st, .int .i64 m.c.pid, .int .i64 m.c.ep, .int .i64 m.c.tm, .int .i64 m.c.th, .slice A2 m.c.ps.length c2, .slice D2 m.c.qs.length e2, .int .i64 m.c.ag]) 8 HK3.out infoCoS rfl rfl (by simp [Value.oneCell'])
  have BB := Lib.hid (fb w.heap.size w (by omega) HB.out)
  have KK := Lib.hid kk
  have RR := Lib.hid (show CoR W2 W2.heap.size m.c A2 D2 from (H2.out.up HB.out).keepB (H2.out.1.offB (b := w.heap.size + 1 + 1) (by omega)) (H2.out.2.1.offB (by omega)) (But.one fh fs).keep (But.one fh fs).size)
  clear kk fb fh fs
  go_enter Tryz.func66, Tryz.ntmps66
  go_upto_region 1 with (fail)
  rw [← HW.out]
  go_wp2_with fail
  refine bodyPost_ret (v := .tuple #[.agg #[.int .i8 m.c.st, .int .i64 m.c.pid, .int .i64 m.c.ep, .int .i64 m.c.tm, .int .i64 m.c.th, .slice A2 m.c.ps.length c2, .slice D2 m.c.qs.length e2, .int .i64 m.c.ag], .int .i64 0]) (rmove_ret m.c A2 D2 c2 e2 _ _ (w.heap.size + 1 + 1) _ rfl rfl KK.out) rfl ?_
  exact ⟨A2, D2, c2, e2, rfl, RR.out, BB.out, fun b hb _ _ o1 o2 => ⟨o1, o2⟩⟩
theorem rmove_any (c : Co) (A1 D1 : Option Addr) (c1 e1 : Nat) (m : Mt) (A2 D2 : Option Addr) (c2 e2 : Nat) (made : Int) (w : World) (h1 : CoR w w.heap.size c A1 D1) (h2 : CoR w w.heap.size m.c A2 D2) (h8 : -128 ≤ c.st) (h9 : c.st ≤ 127) (hm0 : 0 ≤ made) (hm8 : made ≤ 8) :
    Calls Tryz.prog 66 #[.agg #[.int .i8 c.st, .int .i64 c.pid, .int .i64 c.ep, .int .i64 c.tm, .int .i64 c.th, .slice A1 c.ps.length c1, .slice D1 c.qs.length e1, .int .i64 c.ag], .agg (mtX m A2 D2 c2 e2), .int .i64 made] w (RmP c A1 D1 m A2 D2 (moveC c m made) (moveE c m made) w) := by
  unfold moveC moveE
  by_cases k1 : m.kd = 1
  · rw [if_pos k1, if_pos k1]; exact rmove_1 c A1 D1 c1 e1 m A2 D2 c2 e2 made w h1 h2 h8 h9 hm0 hm8 k1
  by_cases k2 : m.kd = 2
  · rw [if_neg k1, if_neg k1, if_pos k2, if_pos k2]; exact rmove_2 c A1 D1 c1 e1 m A2 D2 c2 e2 made w h1 h2 h8 h9 hm0 hm8 k2
  by_cases k3 : m.kd = 3
  · rw [if_neg k1, if_neg k1, if_neg k2, if_neg k2, if_pos k3, if_pos k3]; exact rmove_3 c A1 D1 c1 e1 m A2 D2 c2 e2 made w h1 h2 h8 h9 hm0 hm8 k3
  by_cases k4 : m.kd = 4
  · rw [if_neg k1, if_neg k1, if_neg k2, if_neg k2, if_neg k3, if_neg k3, if_pos k4, if_pos k4]; exact rmove_4 c A1 D1 c1 e1 m A2 D2 c2 e2 made w h1 h2 h8 h9 hm0 hm8 k4
  rw [if_neg k1, if_neg k1, if_neg k2, if_neg k2, if_neg k3, if_neg k3, if_neg k4, if_neg k4]
  exact rmove_0 c A1 D1 c1 e1 m A2 D2 c2 e2 made w h1 h2 h8 h9 hm0 hm8 k1 k2 k3 k4
end
end Go.Proofs.YtbpkckahonmpkaaGreatDoor
