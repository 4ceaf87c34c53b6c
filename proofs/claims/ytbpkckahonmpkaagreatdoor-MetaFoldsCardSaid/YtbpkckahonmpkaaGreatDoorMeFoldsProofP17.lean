/-
  Layer 18, the document's: Add.
  Layer 18, the document's: Complete, Place.
-/
import Derived.Test.YtbpkckahonmpkaaGreatDoorMeFoldsProofP16
import Derived.Deep.LoopGhost
set_option linter.unusedVariables false
set_option linter.unusedSimpArgs false
namespace Go.Proofs.YtbpkckahonmpkaaGreatDoor
open Go.RowKit
section
attribute [-go_sem] loadCells storeVar
set_option maxRecDepth 100000 in
theorem rcomp_ret (x : Co) (A5 D5 : Option Addr) (c5 e5 : Nat) (n : Int) (tmps : Array Value) (b : Nat) (W : World) (h2 : tmps[2]?.getD undef = .pointer (some ⟨b, 0, none⟩)) (h3 : tmps[3]?.getD undef = .int .i64 n) (hK : Blk W b 29 #[.int .i8 x.st, .int .i64 x.pid, .int .i64 x.ep, .int .i64 x.tm, .int .i64 x.th, .slice A5 x.ps.length c5, .slice D5 x.qs.length e5, .int .i64 x.ag]) :
    (results Tryz.f96 tmps).run Tryz.prog W = .ok (.tuple #[(.agg #[.int .i8 x.st, .int .i64 x.pid, .int .i64 x.ep, .int .i64 x.tm, .int .i64 x.th, .slice A5 x.ps.length c5, .slice D5 x.qs.length e5, .int .i64 x.ag]), .int .i64 n]) W := by
  have LC := bk_load (P := Tryz.prog) 8 hK rfl
  clear hK
  simp [results, Tryz.results96, go_sem, h2, h3, LC]
set_option maxRecDepth 100000 in
set_option maxHeartbeats 2000000 in
theorem rcomp_a (c : Co) (A1 D1 : Option Addr) (c1 e1 : Nat)  (w : World) (h1 : CoR w w.heap.size c A1 D1) (h8 : -128 ≤ c.st) (h9 : c.st ≤ 127) (hmay : mayB c = false) :
    Calls Tryz.prog 96 #[(.agg #[.int .i8 c.st, .int .i64 c.pid, .int .i64 c.ep, .int .i64 c.tm, .int .i64 c.th, .slice A1 c.ps.length c1, .slice D1 c.qs.length e1, .int .i64 c.ag])] w (MvP c A1 D1 (compC c) (chkE c 3 true) w) := by

  have HE := Lib.hid (show chkE c 3 true = 2 by rw [chk_no hmay])
  have HC := Lib.hid (show compC c = Co0 by unfold compC; rw [if_pos (by rw [HE.out]; decide)])

  obtain ⟨W0, hW0⟩ : ∃ W0, W0 = (w.alloc (.cells #[.int .i8 c.st, .int .i64 c.pid, .int .i64 c.ep, .int .i64 c.tm, .int .i64 c.th, .slice A1 c.ps.length c1, .slice D1 c.qs.length e1, .int .i64 c.ag] 29)).alloc (.cells #[.int .i8 0, .int .i64 0, .int .i64 0, .int .i64 0, .int .i64 0, .slice none 0 0, .slice none 0 0, .int .i64 0] 29) := ⟨_, rfl⟩
  have s0 : W0.heap.size = w.heap.size + 1 + 1 := by rw [hW0]; simp
  have B0 : Below w.heap.size w W0 := by rw [hW0]; exact bal (bal (Below.refl _ _) _) _
  have K1 : Blk W0 w.heap.size 29 #[.int .i8 c.st, .int .i64 c.pid, .int .i64 c.ep, .int .i64 c.tm, .int .i64 c.th, .slice A1 c.ps.length c1, .slice D1 c.qs.length e1, .int .i64 c.ag] := by rw [hW0]; exact (Blk.new w 29 #[.int .i8 c.st, .int .i64 c.pid, .int .i64 c.ep, .int .i64 c.tm, .int .i64 c.th, .slice A1 c.ps.length c1, .slice D1 c.qs.length e1, .int .i64 c.ag]).alloc _
  have K3 : Blk W0 (w.heap.size + 1) 29 #[.int .i8 0, .int .i64 0, .int .i64 0, .int .i64 0, .int .i64 0, .slice none 0 0, .slice none 0 0, .int .i64 0] := by rw [hW0]; exact bk_new _ 29 #[.int .i8 0, .int .i64 0, .int .i64 0, .int .i64 0, .int .i64 0, .slice none 0 0, .slice none 0 0, .int .i64 0] (by simp)
  have HW := Lib.hid hW0
  have HS := Lib.hid s0
  have HB := Lib.hid B0
  have HK1 := Lib.hid K1
  have HK3 := Lib.hid K3
  have H1 := Lib.hid h1
  have MY := Lib.hid (rMay_any c A1 D1 c1 e1 w.heap.size W0 (h1.below B0) B0.size h8 h9)
  rw [hmay] at MY
  have L0 := bk_load (P := Tryz.prog) 8 K1 rfl
  clear hW0 s0 B0 K1 K3 h1 h8 h9 hmay 
  go_enter Tryz.func96, Tryz.ntmps96
  go_upto_region 1 with (fail)
  rw [← HW.out]
  go_wp2_with fail
  refine MY.out.mono ?_
  rintro e w1 ⟨rfl, b1⟩
  have B1 := Lib.hid (show Below W0.heap.size W0 w1 from b1)
  have kx := HK1.out.below b1 (by have := HS.out; omega)
  have x0 := kx.cell 0
  have x1 := kx.cell 1
  have x2 := kx.cell 2
  have x3 := kx.cell 3
  have x4 := kx.cell 4
  have x5 := kx.cell 5
  have x6 := kx.cell 6
  have L1 := bk_load (P := Tryz.prog) 8 kx rfl
  clear L0 b1 kx
  obtain ⟨W9, st, kk, fb, fh, fs⟩ := bk_store (P := Tryz.prog) (ty := 29) (cs := #[.int .i8 0, .int .i64 0, .int .i64 0, .int .i64 0, .int .i64 0, .slice none 0 0, .slice none 0 0, .int .i64 0]) 8 (HK3.out.below B1.out (by have := HS.out; omega)) infoCo rfl rfl (by simp [Value.oneCell'])
  have BB := Lib.hid (fb w.heap.size w (by omega) (HB.out.trans (B1.out.mono HB.out.size)))
  have KK := Lib.hid kk
  clear kk fb fh fs
  go_wp2_with fail
  refine bodyPost_ret (v := .tuple #[.agg #[.int .i8 0, .int .i64 0, .int .i64 0, .int .i64 0, .int .i64 0, .slice none 0 0, .slice none 0 0, .int .i64 0], .int .i64 2]) (rcomp_ret Co0 none none 0 0 _ _ (w.heap.size + 1) _ rfl rfl KK.out) rfl ?_
  rw [HE.out, HC.out]
  exact ⟨none, none, 0, 0, rfl, ⟨Reads.none_, Reads.none_, Nat.zero_le _, Nat.zero_le _⟩, BB.out, fun b hb _ _ => ⟨offB_none', offB_none'⟩⟩
set_option maxRecDepth 100000 in
set_option maxHeartbeats 2000000 in
theorem rcomp_b (c : Co) (A1 D1 : Option Addr) (c1 e1 : Nat)  (w : World) (h1 : CoR w w.heap.size c A1 D1) (h8 : -128 ≤ c.st) (h9 : c.st ≤ 127) (hmay : mayB c = true) (k3 : ¬ c.st = 3) (k4 : ¬ c.st = 4) :
    Calls Tryz.prog 96 #[(.agg #[.int .i8 c.st, .int .i64 c.pid, .int .i64 c.ep, .int .i64 c.tm, .int .i64 c.th, .slice A1 c.ps.length c1, .slice D1 c.qs.length e1, .int .i64 c.ag])] w (MvP c A1 D1 (compC c) (chkE c 3 true) w) := by

  have HE := Lib.hid (show chkE c 3 true = 180 by rw [chk_of hmay, begins_of hmay, if_pos (by have := may_st hmay; by_cases h0 : c.st = 0; rw [if_pos h0]; rfl; rw [if_neg h0]; by_cases h2 : c.st = 2; rw [if_pos h2]; rfl; rw [if_neg h2, if_pos ((idl_iff c).2 (by omega))]; rfl)])
  have HC := Lib.hid (show compC c = Co0 by unfold compC; rw [if_pos (by rw [HE.out]; decide)])
  have z3 : (c.st == 3) = false := by simpa using k3
  have z4 : (c.st == 4) = false := by simpa using k4
  obtain ⟨W0, hW0⟩ : ∃ W0, W0 = (w.alloc (.cells #[.int .i8 c.st, .int .i64 c.pid, .int .i64 c.ep, .int .i64 c.tm, .int .i64 c.th, .slice A1 c.ps.length c1, .slice D1 c.qs.length e1, .int .i64 c.ag] 29)).alloc (.cells #[.int .i8 0, .int .i64 0, .int .i64 0, .int .i64 0, .int .i64 0, .slice none 0 0, .slice none 0 0, .int .i64 0] 29) := ⟨_, rfl⟩
  have s0 : W0.heap.size = w.heap.size + 1 + 1 := by rw [hW0]; simp
  have B0 : Below w.heap.size w W0 := by rw [hW0]; exact bal (bal (Below.refl _ _) _) _
  have K1 : Blk W0 w.heap.size 29 #[.int .i8 c.st, .int .i64 c.pid, .int .i64 c.ep, .int .i64 c.tm, .int .i64 c.th, .slice A1 c.ps.length c1, .slice D1 c.qs.length e1, .int .i64 c.ag] := by rw [hW0]; exact (Blk.new w 29 #[.int .i8 c.st, .int .i64 c.pid, .int .i64 c.ep, .int .i64 c.tm, .int .i64 c.th, .slice A1 c.ps.length c1, .slice D1 c.qs.length e1, .int .i64 c.ag]).alloc _
  have K3 : Blk W0 (w.heap.size + 1) 29 #[.int .i8 0, .int .i64 0, .int .i64 0, .int .i64 0, .int .i64 0, .slice none 0 0, .slice none 0 0, .int .i64 0] := by rw [hW0]; exact bk_new _ 29 #[.int .i8 0, .int .i64 0, .int .i64 0, .int .i64 0, .int .i64 0, .slice none 0 0, .slice none 0 0, .int .i64 0] (by simp)
  have HW := Lib.hid hW0
  have HS := Lib.hid s0
  have HB := Lib.hid B0
  have HK1 := Lib.hid K1
  have HK3 := Lib.hid K3
  have H1 := Lib.hid h1
  have MY := Lib.hid (rMay_any c A1 D1 c1 e1 w.heap.size W0 (h1.below B0) B0.size h8 h9)
  rw [hmay] at MY
  have L0 := bk_load (P := Tryz.prog) 8 K1 rfl
  clear hW0 s0 B0 K1 K3 h1 h8 h9 hmay k3 k4
  go_enter Tryz.func96, Tryz.ntmps96
  go_upto_region 1 with (fail)
  rw [← HW.out]
  go_wp2_with fail
  refine MY.out.mono ?_
  rintro e w1 ⟨rfl, b1⟩
  have B1 := Lib.hid (show Below W0.heap.size W0 w1 from b1)
  have kx := HK1.out.below b1 (by have := HS.out; omega)
  have x0 := kx.cell 0
  have x1 := kx.cell 1
  have x2 := kx.cell 2
  have x3 := kx.cell 3
  have x4 := kx.cell 4
  have x5 := kx.cell 5
  have x6 := kx.cell 6
  have L1 := bk_load (P := Tryz.prog) 8 kx rfl
  clear L0 b1 kx
  obtain ⟨W2, st2, k2, b2, s2⟩ := bk_fresh (P := Tryz.prog) w1 29 #[.int .i8 0, .int .i64 0, .int .i64 0, .int .i64 0, .int .i64 0, .slice none 0 0, .slice none 0 0, .int .i64 0] #[.int .i8 0, .int .i64 c.pid, .int .i64 c.ep, .int .i64 c.tm, .int .i64 0, .slice none 0 0, .slice none 0 0, .int .i64 0] 8 infoCo rfl rfl (by simp [Value.oneCell'])
  have BF := Lib.hid (B1.out.trans (b2.mono B1.out.size))
  have NE := Lib.hid (show ¬ w.heap.size + 1 = w1.heap.size by have := B1.out.size; have := HS.out; omega)
  have NE0 := Lib.hid (show ¬ w.heap.size = w1.heap.size by have := B1.out.size; have := HS.out; omega)
  have K2 := Lib.hid k2
  have kz := HK1.out.below BF.out (by have := HS.out; omega)
  have y0 := kz.cell 0
  have y4 := kz.cell 4
  have k3 := HK3.out.below BF.out (by have := HS.out; omega)
  have KR := Lib.hid k3
  clear k2 b2 s2 kz k3
  obtain ⟨W9, st9, kk, fb, fh, fs⟩ := bk_store (P := Tryz.prog) (ty := 29) (cs := #[.int .i8 0, .int .i64 0, .int .i64 0, .int .i64 0, .int .i64 0, .slice none 0 0, .slice none 0 0, .int .i64 0]) 8 KR.out infoCo rfl rfl (by simp [Value.oneCell'])
  have BB := Lib.hid (fb w.heap.size w (by omega) (HB.out.trans (BF.out.mono HB.out.size)))
  have KK := Lib.hid kk
  clear kk fb fh fs
  go_wp2_with fail
  refine bodyPost_ret (v := .tuple #[.agg #[.int .i8 0, .int .i64 0, .int .i64 0, .int .i64 0, .int .i64 0, .slice none 0 0, .slice none 0 0, .int .i64 0], .int .i64 180]) (rcomp_ret Co0 none none 0 0 _ _ (w.heap.size + 1) _ rfl rfl KK.out) rfl ?_
  rw [HE.out, HC.out]
  exact ⟨none, none, 0, 0, rfl, ⟨Reads.none_, Reads.none_, Nat.zero_le _, Nat.zero_le _⟩, BB.out, fun b hb _ _ => ⟨offB_none', offB_none'⟩⟩
set_option maxRecDepth 100000 in
set_option maxHeartbeats 2000000 in
theorem rcomp_c (c : Co) (A1 D1 : Option Addr) (c1 e1 : Nat)  (w : World) (h1 : CoR w w.heap.size c A1 D1) (h8 : -128 ≤ c.st) (h9 : c.st ≤ 127) (hmay : mayB c = true) (k3 : c.st = 3) :
    Calls Tryz.prog 96 #[(.agg #[.int .i8 c.st, .int .i64 c.pid, .int .i64 c.ep, .int .i64 c.tm, .int .i64 c.th, .slice A1 c.ps.length c1, .slice D1 c.qs.length e1, .int .i64 c.ag])] w (MvP c A1 D1 (compC c) (chkE c 3 true) w) := by

  have HE := Lib.hid (show chkE c 3 true = 0 by rw [chk_of hmay, begins_of hmay, if_neg (show ¬ c.st = 0 by omega), if_neg (show ¬ c.st = 2 by omega), if_neg (show ¬ idlB c = true from fun h => by have := (idl_iff c).1 h; omega)]; rfl)
  have HC := Lib.hid (show compC c = ⟨5, c.pid, c.ep, c.tm, 0, [], [], 0⟩ by unfold compC; rw [if_neg (by rw [HE.out]; decide)]; rw [if_neg (by have := (may_prep hmay (.inl k3)).2.2.2.2 k3; omega), if_neg (by omega)])
  have z3 : (c.st == 3) = true := by rw [k3]; rfl
  have z4 : (c.st == 4) = false := by rw [k3]; rfl
  obtain ⟨W0, hW0⟩ : ∃ W0, W0 = (w.alloc (.cells #[.int .i8 c.st, .int .i64 c.pid, .int .i64 c.ep, .int .i64 c.tm, .int .i64 c.th, .slice A1 c.ps.length c1, .slice D1 c.qs.length e1, .int .i64 c.ag] 29)).alloc (.cells #[.int .i8 0, .int .i64 0, .int .i64 0, .int .i64 0, .int .i64 0, .slice none 0 0, .slice none 0 0, .int .i64 0] 29) := ⟨_, rfl⟩
  have s0 : W0.heap.size = w.heap.size + 1 + 1 := by rw [hW0]; simp
  have B0 : Below w.heap.size w W0 := by rw [hW0]; exact bal (bal (Below.refl _ _) _) _
  have K1 : Blk W0 w.heap.size 29 #[.int .i8 c.st, .int .i64 c.pid, .int .i64 c.ep, .int .i64 c.tm, .int .i64 c.th, .slice A1 c.ps.length c1, .slice D1 c.qs.length e1, .int .i64 c.ag] := by rw [hW0]; exact (Blk.new w 29 #[.int .i8 c.st, .int .i64 c.pid, .int .i64 c.ep, .int .i64 c.tm, .int .i64 c.th, .slice A1 c.ps.length c1, .slice D1 c.qs.length e1, .int .i64 c.ag]).alloc _
  have K3 : Blk W0 (w.heap.size + 1) 29 #[.int .i8 0, .int .i64 0, .int .i64 0, .int .i64 0, .int .i64 0, .slice none 0 0, .slice none 0 0, .int .i64 0] := by rw [hW0]; exact bk_new _ 29 #[.int .i8 0, .int .i64 0, .int .i64 0, .int .i64 0, .int .i64 0, .slice none 0 0, .slice none 0 0, .int .i64 0] (by simp)
  have HW := Lib.hid hW0
  have HS := Lib.hid s0
  have HB := Lib.hid B0
  have HK1 := Lib.hid K1
  have HK3 := Lib.hid K3
  have H1 := Lib.hid h1
  have MY := Lib.hid (rMay_any c A1 D1 c1 e1 w.heap.size W0 (h1.below B0) B0.size h8 h9)
  rw [hmay] at MY
  have L0 := bk_load (P := Tryz.prog) 8 K1 rfl
  clear hW0 s0 B0 K1 K3 h1 h8 h9 hmay k3
  go_enter Tryz.func96, Tryz.ntmps96
  go_upto_region 1 with (fail)
  rw [← HW.out]
  go_wp2_with fail
  refine MY.out.mono ?_
  rintro e w1 ⟨rfl, b1⟩
  have B1 := Lib.hid (show Below W0.heap.size W0 w1 from b1)
  have kx := HK1.out.below b1 (by have := HS.out; omega)
  have x0 := kx.cell 0
  have x1 := kx.cell 1
  have x2 := kx.cell 2
  have x3 := kx.cell 3
  have x4 := kx.cell 4
  have x5 := kx.cell 5
  have x6 := kx.cell 6
  have L1 := bk_load (P := Tryz.prog) 8 kx rfl
  clear L0 b1 kx
  obtain ⟨W2, st2, k2, b2, s2⟩ := bk_fresh (P := Tryz.prog) w1 29 #[.int .i8 0, .int .i64 0, .int .i64 0, .int .i64 0, .int .i64 0, .slice none 0 0, .slice none 0 0, .int .i64 0] #[.int .i8 0, .int .i64 c.pid, .int .i64 c.ep, .int .i64 c.tm, .int .i64 0, .slice none 0 0, .slice none 0 0, .int .i64 0] 8 infoCo rfl rfl (by simp [Value.oneCell'])
  have BF := Lib.hid (B1.out.trans (b2.mono B1.out.size))
  have NE := Lib.hid (show ¬ w.heap.size + 1 = w1.heap.size by have := B1.out.size; have := HS.out; omega)
  have NE0 := Lib.hid (show ¬ w.heap.size = w1.heap.size by have := B1.out.size; have := HS.out; omega)
  have K2 := Lib.hid k2
  have kz := HK1.out.below BF.out (by have := HS.out; omega)
  have y0 := kz.cell 0
  have y4 := kz.cell 4
  have k3 := HK3.out.below BF.out (by have := HS.out; omega)
  have KR := Lib.hid k3
  clear k2 b2 s2 kz k3
  have st_0 := store_i8 5 (K2.out.cell 0) (K2.out.frozen 0)
  have k1 : Blk (W2.setCell ⟨w1.heap.size, 0, none⟩ (.int .i8 5)) w1.heap.size 29 #[.int .i8 5, .int .i64 c.pid, .int .i64 c.ep, .int .i64 c.tm, .int .i64 0, .slice none 0 0, .slice none 0 0, .int .i64 0] := K2.out.set_ 0 (.int .i8 5)
  have kk1 : Blk (W2.setCell ⟨w1.heap.size, 0, none⟩ (.int .i8 5)) (w.heap.size + 1) 29 #[.int .i8 0, .int .i64 0, .int .i64 0, .int .i64 0, .int .i64 0, .slice none 0 0, .slice none 0 0, .int .i64 0] := KR.out.far (p := ⟨w1.heap.size, 0, none⟩) NE.out (.int .i8 5)
  have bb1 : Below W0.heap.size W0 (W2.setCell ⟨w1.heap.size, 0, none⟩ (.int .i8 5)) := BF.out.setCell (p := ⟨w1.heap.size, 0, none⟩) B1.out.size (.int .i8 5)
  have L8 := bk_load (P := Tryz.prog) 8 k1 rfl
  have K38 := Lib.hid kk1
  have BB8 := Lib.hid bb1
  clear k1 kk1 bb1
  go_upto_region 14 with (fail)
  generalize (W2.setCell ⟨w1.heap.size, 0, none⟩ (.int .i8 5)) = W8 at *
  obtain ⟨W9, st9, kk, fb, fh, fs⟩ := bk_store (P := Tryz.prog) (ty := 29) (cs := #[.int .i8 5, .int .i64 c.pid, .int .i64 c.ep, .int .i64 c.tm, .int .i64 0, .slice none 0 0, .slice none 0 0, .int .i64 0]) 8 K38.out infoCo rfl rfl (by simp [Value.oneCell'])
  have BB := Lib.hid (fb w.heap.size w (by omega) (HB.out.trans (BB8.out.mono HB.out.size)))
  have KK := Lib.hid kk
  clear kk fb fh fs
  go_wp2_with fail
  refine bodyPost_ret (v := .tuple #[.agg #[.int .i8 5, .int .i64 c.pid, .int .i64 c.ep, .int .i64 c.tm, .int .i64 0, .slice none 0 0, .slice none 0 0, .int .i64 0], .int .i64 0]) (rcomp_ret ⟨5, c.pid, c.ep, c.tm, 0, [], [], 0⟩ none none 0 0 _ _ (w.heap.size + 1) _ rfl rfl KK.out) rfl ?_
  rw [HE.out, HC.out]
  exact ⟨none, none, 0, 0, rfl, ⟨Reads.none_, Reads.none_, Nat.zero_le _, Nat.zero_le _⟩, BB.out, fun b hb _ _ => ⟨offB_none', offB_none'⟩⟩
set_option maxRecDepth 100000 in
set_option maxHeartbeats 2000000 in
theorem rcomp_d (c : Co) (A1 D1 : Option Addr) (c1 e1 : Nat)  (w : World) (h1 : CoR w w.heap.size c A1 D1) (h8 : -128 ≤ c.st) (h9 : c.st ≤ 127) (hmay : mayB c = true) (k4 : c.st = 4) (kt : ¬ 0 < c.th) :
    Calls Tryz.prog 96 #[(.agg #[.int .i8 c.st, .int .i64 c.pid, .int .i64 c.ep, .int .i64 c.tm, .int .i64 c.th, .slice A1 c.ps.length c1, .slice D1 c.qs.length e1, .int .i64 c.ag])] w (MvP c A1 D1 (compC c) (chkE c 3 true) w) := by

  have HE := Lib.hid (show chkE c 3 true = 0 by rw [chk_of hmay, begins_of hmay, if_neg (show ¬ c.st = 0 by omega), if_neg (show ¬ c.st = 2 by omega), if_neg (show ¬ idlB c = true from fun h => by have := (idl_iff c).1 h; omega)]; rfl)
  have HC := Lib.hid (show compC c = ⟨6, c.pid, c.ep, c.tm, 0, [], [], 0⟩ by unfold compC; rw [if_neg (by rw [HE.out]; decide)]; rw [if_neg kt, if_pos k4])
  have z3 : (c.st == 3) = false := by rw [k4]; rfl
  have z4 : (c.st == 4) = true := by rw [k4]; rfl
  have zt : decide (0 < c.th) = false := by simpa using kt
  obtain ⟨W0, hW0⟩ : ∃ W0, W0 = (w.alloc (.cells #[.int .i8 c.st, .int .i64 c.pid, .int .i64 c.ep, .int .i64 c.tm, .int .i64 c.th, .slice A1 c.ps.length c1, .slice D1 c.qs.length e1, .int .i64 c.ag] 29)).alloc (.cells #[.int .i8 0, .int .i64 0, .int .i64 0, .int .i64 0, .int .i64 0, .slice none 0 0, .slice none 0 0, .int .i64 0] 29) := ⟨_, rfl⟩
  have s0 : W0.heap.size = w.heap.size + 1 + 1 := by rw [hW0]; simp
  have B0 : Below w.heap.size w W0 := by rw [hW0]; exact bal (bal (Below.refl _ _) _) _
  have K1 : Blk W0 w.heap.size 29 #[.int .i8 c.st, .int .i64 c.pid, .int .i64 c.ep, .int .i64 c.tm, .int .i64 c.th, .slice A1 c.ps.length c1, .slice D1 c.qs.length e1, .int .i64 c.ag] := by rw [hW0]; exact (Blk.new w 29 #[.int .i8 c.st, .int .i64 c.pid, .int .i64 c.ep, .int .i64 c.tm, .int .i64 c.th, .slice A1 c.ps.length c1, .slice D1 c.qs.length e1, .int .i64 c.ag]).alloc _
  have K3 : Blk W0 (w.heap.size + 1) 29 #[.int .i8 0, .int .i64 0, .int .i64 0, .int .i64 0, .int .i64 0, .slice none 0 0, .slice none 0 0, .int .i64 0] := by rw [hW0]; exact bk_new _ 29 #[.int .i8 0, .int .i64 0, .int .i64 0, .int .i64 0, .int .i64 0, .slice none 0 0, .slice none 0 0, .int .i64 0] (by simp)
  have HW := Lib.hid hW0
  have HS := Lib.hid s0
  have HB := Lib.hid B0
  have HK1 := Lib.hid K1
  have HK3 := Lib.hid K3
  have H1 := Lib.hid h1
  have MY := Lib.hid (rMay_any c A1 D1 c1 e1 w.heap.size W0 (h1.below B0) B0.size h8 h9)
  rw [hmay] at MY
  have L0 := bk_load (P := Tryz.prog) 8 K1 rfl
  clear hW0 s0 B0 K1 K3 h1 h8 h9 hmay k4 kt
  go_enter Tryz.func96, Tryz.ntmps96
  go_upto_region 1 with (fail)
  rw [← HW.out]
  go_wp2_with fail
  refine MY.out.mono ?_
  rintro e w1 ⟨rfl, b1⟩
  have B1 := Lib.hid (show Below W0.heap.size W0 w1 from b1)
  have kx := HK1.out.below b1 (by have := HS.out; omega)
  have x0 := kx.cell 0
  have x1 := kx.cell 1
  have x2 := kx.cell 2
  have x3 := kx.cell 3
  have x4 := kx.cell 4
  have x5 := kx.cell 5
  have x6 := kx.cell 6
  have L1 := bk_load (P := Tryz.prog) 8 kx rfl
  clear L0 b1 kx
  obtain ⟨W2, st2, k2, b2, s2⟩ := bk_fresh (P := Tryz.prog) w1 29 #[.int .i8 0, .int .i64 0, .int .i64 0, .int .i64 0, .int .i64 0, .slice none 0 0, .slice none 0 0, .int .i64 0] #[.int .i8 0, .int .i64 c.pid, .int .i64 c.ep, .int .i64 c.tm, .int .i64 0, .slice none 0 0, .slice none 0 0, .int .i64 0] 8 infoCo rfl rfl (by simp [Value.oneCell'])
  have BF := Lib.hid (B1.out.trans (b2.mono B1.out.size))
  have NE := Lib.hid (show ¬ w.heap.size + 1 = w1.heap.size by have := B1.out.size; have := HS.out; omega)
  have NE0 := Lib.hid (show ¬ w.heap.size = w1.heap.size by have := B1.out.size; have := HS.out; omega)
  have K2 := Lib.hid k2
  have kz := HK1.out.below BF.out (by have := HS.out; omega)
  have y0 := kz.cell 0
  have y4 := kz.cell 4
  have k3 := HK3.out.below BF.out (by have := HS.out; omega)
  have KR := Lib.hid k3
  clear k2 b2 s2 kz k3
  have st_0 := store_i8 6 (K2.out.cell 0) (K2.out.frozen 0)
  have k1 : Blk (W2.setCell ⟨w1.heap.size, 0, none⟩ (.int .i8 6)) w1.heap.size 29 #[.int .i8 6, .int .i64 c.pid, .int .i64 c.ep, .int .i64 c.tm, .int .i64 0, .slice none 0 0, .slice none 0 0, .int .i64 0] := K2.out.set_ 0 (.int .i8 6)
  have kk1 : Blk (W2.setCell ⟨w1.heap.size, 0, none⟩ (.int .i8 6)) (w.heap.size + 1) 29 #[.int .i8 0, .int .i64 0, .int .i64 0, .int .i64 0, .int .i64 0, .slice none 0 0, .slice none 0 0, .int .i64 0] := KR.out.far (p := ⟨w1.heap.size, 0, none⟩) NE.out (.int .i8 6)
  have bb1 : Below W0.heap.size W0 (W2.setCell ⟨w1.heap.size, 0, none⟩ (.int .i8 6)) := BF.out.setCell (p := ⟨w1.heap.size, 0, none⟩) B1.out.size (.int .i8 6)
  have L8 := bk_load (P := Tryz.prog) 8 k1 rfl
  have K38 := Lib.hid kk1
  have BB8 := Lib.hid bb1
  clear k1 kk1 bb1
  go_upto_region 14 with (fail)
  generalize (W2.setCell ⟨w1.heap.size, 0, none⟩ (.int .i8 6)) = W8 at *
  obtain ⟨W9, st9, kk, fb, fh, fs⟩ := bk_store (P := Tryz.prog) (ty := 29) (cs := #[.int .i8 6, .int .i64 c.pid, .int .i64 c.ep, .int .i64 c.tm, .int .i64 0, .slice none 0 0, .slice none 0 0, .int .i64 0]) 8 K38.out infoCo rfl rfl (by simp [Value.oneCell'])
  have BB := Lib.hid (fb w.heap.size w (by omega) (HB.out.trans (BB8.out.mono HB.out.size)))
  have KK := Lib.hid kk
  clear kk fb fh fs
  go_wp2_with fail
  refine bodyPost_ret (v := .tuple #[.agg #[.int .i8 6, .int .i64 c.pid, .int .i64 c.ep, .int .i64 c.tm, .int .i64 0, .slice none 0 0, .slice none 0 0, .int .i64 0], .int .i64 0]) (rcomp_ret ⟨6, c.pid, c.ep, c.tm, 0, [], [], 0⟩ none none 0 0 _ _ (w.heap.size + 1) _ rfl rfl KK.out) rfl ?_
  rw [HE.out, HC.out]
  exact ⟨none, none, 0, 0, rfl, ⟨Reads.none_, Reads.none_, Nat.zero_le _, Nat.zero_le _⟩, BB.out, fun b hb _ _ => ⟨offB_none', offB_none'⟩⟩
set_option maxRecDepth 100000 in
set_option maxHeartbeats 2000000 in
theorem rcomp_e (c : Co) (A1 D1 : Option Addr) (c1 e1 : Nat)  (w : World) (h1 : CoR w w.heap.size c A1 D1) (h8 : -128 ≤ c.st) (h9 : c.st ≤ 127) (hmay : mayB c = true) (k4 : c.st = 4) (kt : 0 < c.th) :
    Calls Tryz.prog 96 #[(.agg #[.int .i8 c.st, .int .i64 c.pid, .int .i64 c.ep, .int .i64 c.tm, .int .i64 c.th, .slice A1 c.ps.length c1, .slice D1 c.qs.length e1, .int .i64 c.ag])] w (MvP c A1 D1 (compC c) (chkE c 3 true) w) := by

  have HE := Lib.hid (show chkE c 3 true = 0 by rw [chk_of hmay, begins_of hmay, if_neg (show ¬ c.st = 0 by omega), if_neg (show ¬ c.st = 2 by omega), if_neg (show ¬ idlB c = true from fun h => by have := (idl_iff c).1 h; omega)]; rfl)
  have HC := Lib.hid (show compC c = ⟨1, c.pid, c.ep + 1, c.th, 0, [], [], 0⟩ by unfold compC; rw [if_neg (by rw [HE.out]; decide)]; rw [if_pos kt])
  have z3 : (c.st == 3) = false := by rw [k4]; rfl
  have z4 : (c.st == 4) = true := by rw [k4]; rfl
  have zt : decide (0 < c.th) = true := by simpa using kt
  have cw : IntKind.i64.wrap (c.ep + 1) = c.ep + 1 := IntWalk.i64_in _ (by have := may_ep hmay; omega)
  obtain ⟨W0, hW0⟩ : ∃ W0, W0 = (w.alloc (.cells #[.int .i8 c.st, .int .i64 c.pid, .int .i64 c.ep, .int .i64 c.tm, .int .i64 c.th, .slice A1 c.ps.length c1, .slice D1 c.qs.length e1, .int .i64 c.ag] 29)).alloc (.cells #[.int .i8 0, .int .i64 0, .int .i64 0, .int .i64 0, .int .i64 0, .slice none 0 0, .slice none 0 0, .int .i64 0] 29) := ⟨_, rfl⟩
  have s0 : W0.heap.size = w.heap.size + 1 + 1 := by rw [hW0]; simp
  have B0 : Below w.heap.size w W0 := by rw [hW0]; exact bal (bal (Below.refl _ _) _) _
  have K1 : Blk W0 w.heap.size 29 #[.int .i8 c.st, .int .i64 c.pid, .int .i64 c.ep, .int .i64 c.tm, .int .i64 c.th, .slice A1 c.ps.length c1, .slice D1 c.qs.length e1, .int .i64 c.ag] := by rw [hW0]; exact (Blk.new w 29 #[.int .i8 c.st, .int .i64 c.pid, .int .i64 c.ep, .int .i64 c.tm, .int .i64 c.th, .slice A1 c.ps.length c1, .slice D1 c.qs.length e1, .int .i64 c.ag]).alloc _
  have K3 : Blk W0 (w.heap.size + 1) 29 #[.int .i8 0, .int .i64 0, .int .i64 0, .int .i64 0, .int .i64 0, .slice none 0 0, .slice none 0 0, .int .i64 0] := by rw [hW0]; exact bk_new _ 29 #[.int .i8 0, .int .i64 0, .int .i64 0, .int .i64 0, .int .i64 0, .slice none 0 0, .slice none 0 0, .int .i64 0] (by simp)
  have HW := Lib.hid hW0
  have HS := Lib.hid s0
  have HB := Lib.hid B0
  have HK1 := Lib.hid K1
  have HK3 := Lib.hid K3
  have H1 := Lib.hid h1
  have MY := Lib.hid (rMay_any c A1 D1 c1 e1 w.heap.size W0 (h1.below B0) B0.size h8 h9)
  rw [hmay] at MY
  have L0 := bk_load (P := Tryz.prog) 8 K1 rfl
  clear hW0 s0 B0 K1 K3 h1 h8 h9 hmay k4 kt
  go_enter Tryz.func96, Tryz.ntmps96
  go_upto_region 1 with (fail)
  rw [← HW.out]
  go_wp2_with fail
  refine MY.out.mono ?_
  rintro e w1 ⟨rfl, b1⟩
  have B1 := Lib.hid (show Below W0.heap.size W0 w1 from b1)
  have kx := HK1.out.below b1 (by have := HS.out; omega)
  have x0 := kx.cell 0
  have x1 := kx.cell 1
  have x2 := kx.cell 2
  have x3 := kx.cell 3
  have x4 := kx.cell 4
  have x5 := kx.cell 5
  have x6 := kx.cell 6
  have L1 := bk_load (P := Tryz.prog) 8 kx rfl
  clear L0 b1 kx
  obtain ⟨W2, st2, k2, b2, s2⟩ := bk_fresh (P := Tryz.prog) w1 29 #[.int .i8 0, .int .i64 0, .int .i64 0, .int .i64 0, .int .i64 0, .slice none 0 0, .slice none 0 0, .int .i64 0] #[.int .i8 0, .int .i64 c.pid, .int .i64 c.ep, .int .i64 c.tm, .int .i64 0, .slice none 0 0, .slice none 0 0, .int .i64 0] 8 infoCo rfl rfl (by simp [Value.oneCell'])
  have BF := Lib.hid (B1.out.trans (b2.mono B1.out.size))
  have NE := Lib.hid (show ¬ w.heap.size + 1 = w1.heap.size by have := B1.out.size; have := HS.out; omega)
  have NE0 := Lib.hid (show ¬ w.heap.size = w1.heap.size by have := B1.out.size; have := HS.out; omega)
  have K2 := Lib.hid k2
  have kz := HK1.out.below BF.out (by have := HS.out; omega)
  have y0 := kz.cell 0
  have y4 := kz.cell 4
  have k3 := HK3.out.below BF.out (by have := HS.out; omega)
  have KR := Lib.hid k3
  clear k2 b2 s2 kz k3
  have st_0 := store_i8 6 (K2.out.cell 0) (K2.out.frozen 0)
  have k1 : Blk (W2.setCell ⟨w1.heap.size, 0, none⟩ (.int .i8 6)) w1.heap.size 29 #[.int .i8 6, .int .i64 c.pid, .int .i64 c.ep, .int .i64 c.tm, .int .i64 0, .slice none 0 0, .slice none 0 0, .int .i64 0] := K2.out.set_ 0 (.int .i8 6)
  have kk1 : Blk (W2.setCell ⟨w1.heap.size, 0, none⟩ (.int .i8 6)) (w.heap.size + 1) 29 #[.int .i8 0, .int .i64 0, .int .i64 0, .int .i64 0, .int .i64 0, .slice none 0 0, .slice none 0 0, .int .i64 0] := KR.out.far (p := ⟨w1.heap.size, 0, none⟩) NE.out (.int .i8 6)
  have bb1 : Below W0.heap.size W0 (W2.setCell ⟨w1.heap.size, 0, none⟩ (.int .i8 6)) := BF.out.setCell (p := ⟨w1.heap.size, 0, none⟩) B1.out.size (.int .i8 6)
  have c1_2 := k1.cell 2
  have y4_1 := (HK1.out.below bb1 (by have := HS.out; omega)).cell 4
  have st_1 := store_i8 1 (k1.cell 0) (k1.frozen 0)
  have k2 : Blk ((W2.setCell ⟨w1.heap.size, 0, none⟩ (.int .i8 6)).setCell ⟨w1.heap.size, 0, none⟩ (.int .i8 1)) w1.heap.size 29 #[.int .i8 1, .int .i64 c.pid, .int .i64 c.ep, .int .i64 c.tm, .int .i64 0, .slice none 0 0, .slice none 0 0, .int .i64 0] := k1.set_ 0 (.int .i8 1)
  have kk2 : Blk ((W2.setCell ⟨w1.heap.size, 0, none⟩ (.int .i8 6)).setCell ⟨w1.heap.size, 0, none⟩ (.int .i8 1)) (w.heap.size + 1) 29 #[.int .i8 0, .int .i64 0, .int .i64 0, .int .i64 0, .int .i64 0, .slice none 0 0, .slice none 0 0, .int .i64 0] := kk1.far (p := ⟨w1.heap.size, 0, none⟩) NE.out (.int .i8 1)
  have bb2 : Below W0.heap.size W0 ((W2.setCell ⟨w1.heap.size, 0, none⟩ (.int .i8 6)).setCell ⟨w1.heap.size, 0, none⟩ (.int .i8 1)) := bb1.setCell (p := ⟨w1.heap.size, 0, none⟩) B1.out.size (.int .i8 1)
  have c2_2 := k2.cell 2
  have y4_2 := (HK1.out.below bb2 (by have := HS.out; omega)).cell 4
  have st_2 := store_i64 (c.ep + 1) (k2.cell 2) (k2.frozen 2)
  have k3 : Blk (((W2.setCell ⟨w1.heap.size, 0, none⟩ (.int .i8 6)).setCell ⟨w1.heap.size, 0, none⟩ (.int .i8 1)).setCell ⟨w1.heap.size, 2, none⟩ (.int .i64 (c.ep + 1))) w1.heap.size 29 #[.int .i8 1, .int .i64 c.pid, .int .i64 (c.ep + 1), .int .i64 c.tm, .int .i64 0, .slice none 0 0, .slice none 0 0, .int .i64 0] := k2.set_ 2 (.int .i64 (c.ep + 1))
  have kk3 : Blk (((W2.setCell ⟨w1.heap.size, 0, none⟩ (.int .i8 6)).setCell ⟨w1.heap.size, 0, none⟩ (.int .i8 1)).setCell ⟨w1.heap.size, 2, none⟩ (.int .i64 (c.ep + 1))) (w.heap.size + 1) 29 #[.int .i8 0, .int .i64 0, .int .i64 0, .int .i64 0, .int .i64 0, .slice none 0 0, .slice none 0 0, .int .i64 0] := kk2.far (p := ⟨w1.heap.size, 2, none⟩) NE.out (.int .i64 (c.ep + 1))
  have bb3 : Below W0.heap.size W0 (((W2.setCell ⟨w1.heap.size, 0, none⟩ (.int .i8 6)).setCell ⟨w1.heap.size, 0, none⟩ (.int .i8 1)).setCell ⟨w1.heap.size, 2, none⟩ (.int .i64 (c.ep + 1))) := bb2.setCell (p := ⟨w1.heap.size, 2, none⟩) B1.out.size (.int .i64 (c.ep + 1))
  have c3_2 := k3.cell 2
  have y4_3 := (HK1.out.below bb3 (by have := HS.out; omega)).cell 4
  have st_3 := store_i64 c.th (k3.cell 3) (k3.frozen 3)
  have k4 : Blk ((((W2.setCell ⟨w1.heap.size, 0, none⟩ (.int .i8 6)).setCell ⟨w1.heap.size, 0, none⟩ (.int .i8 1)).setCell ⟨w1.heap.size, 2, none⟩ (.int .i64 (c.ep + 1))).setCell ⟨w1.heap.size, 3, none⟩ (.int .i64 c.th)) w1.heap.size 29 #[.int .i8 1, .int .i64 c.pid, .int .i64 (c.ep + 1), .int .i64 c.th, .int .i64 0, .slice none 0 0, .slice none 0 0, .int .i64 0] := k3.set_ 3 (.int .i64 c.th)
  have kk4 : Blk ((((W2.setCell ⟨w1.heap.size, 0, none⟩ (.int .i8 6)).setCell ⟨w1.heap.size, 0, none⟩ (.int .i8 1)).setCell ⟨w1.heap.size, 2, none⟩ (.int .i64 (c.ep + 1))).setCell ⟨w1.heap.size, 3, none⟩ (.int .i64 c.th)) (w.heap.size + 1) 29 #[.int .i8 0, .int .i64 0, .int .i64 0, .int .i64 0, .int .i64 0, .slice none 0 0, .slice none 0 0, .int .i64 0] := kk3.far (p := ⟨w1.heap.size, 3, none⟩) NE.out (.int .i64 c.th)
  have bb4 : Below W0.heap.size W0 ((((W2.setCell ⟨w1.heap.size, 0, none⟩ (.int .i8 6)).setCell ⟨w1.heap.size, 0, none⟩ (.int .i8 1)).setCell ⟨w1.heap.size, 2, none⟩ (.int .i64 (c.ep + 1))).setCell ⟨w1.heap.size, 3, none⟩ (.int .i64 c.th)) := bb3.setCell (p := ⟨w1.heap.size, 3, none⟩) B1.out.size (.int .i64 c.th)
  have L8 := bk_load (P := Tryz.prog) 8 k4 rfl
  have K38 := Lib.hid kk4
  have BB8 := Lib.hid bb4
  clear k1 kk1 bb1 k2 kk2 bb2 k3 kk3 bb3 k4 kk4 bb4
  go_upto_region 14 with (fail)
  generalize ((((W2.setCell ⟨w1.heap.size, 0, none⟩ (.int .i8 6)).setCell ⟨w1.heap.size, 0, none⟩ (.int .i8 1)).setCell ⟨w1.heap.size, 2, none⟩ (.int .i64 (c.ep + 1))).setCell ⟨w1.heap.size, 3, none⟩ (.int .i64 c.th)) = W8 at *
  obtain ⟨W9, st9, kk, fb, fh, fs⟩ := bk_store (P := Tryz.prog) (ty := 29) (cs := #[.int .i8 1, .int .i64 c.pid, .int .i64 (c.ep + 1), .int .i64 c.th, .int .i64 0, .slice none 0 0, .slice none 0 0, .int .i64 0]) 8 K38.out infoCo rfl rfl (by simp [Value.oneCell'])
  have BB := Lib.hid (fb w.heap.size w (by omega) (HB.out.trans (BB8.out.mono HB.out.size)))
  have KK := Lib.hid kk
  clear kk fb fh fs
  go_wp2_with fail
  refine bodyPost_ret (v := .tuple #[.agg #[.int .i8 1, .int .i64 c.pid, .int .i64 (c.ep + 1), .int .i64 c.th, .int .i64 0, .slice none 0 0, .slice none 0 0, .int .i64 0], .int .i64 0]) (rcomp_ret ⟨1, c.pid, c.ep + 1, c.th, 0, [], [], 0⟩ none none 0 0 _ _ (w.heap.size + 1) _ rfl rfl KK.out) rfl ?_
  rw [HE.out, HC.out]
  exact ⟨none, none, 0, 0, rfl, ⟨Reads.none_, Reads.none_, Nat.zero_le _, Nat.zero_le _⟩, BB.out, fun b hb _ _ => ⟨offB_none', offB_none'⟩⟩
theorem rComp_any (c : Co) (A1 D1 : Option Addr) (c1 e1 : Nat) (w : World) (h1 : CoR w w.heap.size c A1 D1) (h8 : -128 ≤ c.st) (h9 : c.st ≤ 127) :
    Calls Tryz.prog 96 #[(.agg #[.int .i8 c.st, .int .i64 c.pid, .int .i64 c.ep, .int .i64 c.tm, .int .i64 c.th, .slice A1 c.ps.length c1, .slice D1 c.qs.length e1, .int .i64 c.ag])] w (MvP c A1 D1 (compC c) (chkE c 3 true) w) := by
  cases hm : mayB c
  · exact rcomp_a c A1 D1 c1 e1 w h1 h8 h9 hm
  by_cases k3 : c.st = 3
  · exact rcomp_c c A1 D1 c1 e1 w h1 h8 h9 hm k3
  by_cases k4 : c.st = 4
  · by_cases kt : 0 < c.th
    · exact rcomp_e c A1 D1 c1 e1 w h1 h8 h9 hm k4 kt
    · exact rcomp_d c A1 D1 c1 e1 w h1 h8 h9 hm k4 kt
  · exact rcomp_b c A1 D1 c1 e1 w h1 h8 h9 hm k3 k4
end
end Go.Proofs.YtbpkckahonmpkaaGreatDoor
namespace Go.Proofs.YtbpkckahonmpkaaGreatDoor
open Go.RowKit
/-- The blocks of the call, while a list is made. -/
structure MkS (w : World) (n : Nat) (cs : List (TypeId × Array Value)) (W : World) : Prop where
  blk : ∀ j t a, cs[j]? = some (t, a) → Blk W (w.heap.size + j) t a
  bel : Below w.heap.size w W
  top : w.heap.size + n ≤ W.heap.size
theorem MkS.grown {w : World} {n : Nat} {cs : List (TypeId × Array Value)} {W W3 : World} {r : Option Nat} (h : MkS w n cs W) (hl : cs.length = n) (hg : W.grownBy W3 r) (hr : ∀ y, r = some y → w.heap.size + n ≤ y) : MkS w n cs W3 :=
  ⟨fun j t a hj => bk_grown_blk hg (h.blk j t a hj) (fun e => by have := hr _ e; have := (List.getElem?_eq_some_iff.1 hj).1; omega), h.bel.grown hg h.bel.size (fun y hy => by have := hr y hy; omega), Nat.le_trans h.top hg.size⟩
theorem MkS.b0 {w : World} {n : Nat} {t : TypeId} {a : Array Value} {r : List (TypeId × Array Value)} {W : World} (h : MkS w n ((t, a) :: r) W) : Blk W w.heap.size t a := h.blk 0 t a rfl
theorem MkS.b1 {w : World} {n : Nat} {x : TypeId × Array Value} {t : TypeId} {a : Array Value} {r : List (TypeId × Array Value)} {W : World} (h : MkS w n (x :: (t, a) :: r) W) : Blk W (w.heap.size + 1) t a := h.blk 1 t a rfl
theorem MkS.b2 {w : World} {n : Nat} {x y : TypeId × Array Value} {t : TypeId} {a : Array Value} {r : List (TypeId × Array Value)} {W : World} (h : MkS w n (x :: y :: (t, a) :: r) W) : Blk W (w.heap.size + 1 + 1) t a := h.blk 2 t a rfl
theorem MkS.alloc {w : World} {n : Nat} {cs : List (TypeId × Array Value)} {W : World} (h : MkS w n cs W) (hl : cs.length = n) (ob : Obj) : MkS w n cs (W.alloc ob) := h.grown hl (grown_alloc W ob none) (fun y e => by cases e)
theorem MkS.below {w : World} {n : Nat} {cs : List (TypeId × Array Value)} {W W' : World} (h : MkS w n cs W) (hl : cs.length = n) (hb : Below W.heap.size W W') : MkS w n cs W' := h.grown hl (grown_below hb (Nat.le_refl _) none) (fun y e => by cases e)
section
attribute [-go_sem] loadCells storeVar
end
end Go.Proofs.YtbpkckahonmpkaaGreatDoor
