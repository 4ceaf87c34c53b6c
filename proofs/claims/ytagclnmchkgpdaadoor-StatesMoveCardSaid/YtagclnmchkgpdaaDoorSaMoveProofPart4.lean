/-
  Layer 18, the document's: Add.
  Layer 18, the document's: Complete, Place.
-/
import Derived.Test.YtagclnmchkgpdaaDoorSaMoveProofPart3
import Derived.Deep.LoopGhost
set_option linter.unusedVariables false
set_option linter.unusedSimpArgs false
namespace Go.Proofs.YtagclnmchkgpdaaDoor
open Go.RowKit
section
attribute [-go_sem] loadCells storeVar
theorem cor_hold2 {w w' : World} {c : Co} {A D : Option Addr} (h : CoR w w.heap.size c A D) (hb : Below w.heap.size w w') : CoR w' w'.heap.size c A D := h.up hb
set_option maxRecDepth 100000 in
theorem rcomp_ret (x : Co) (A5 D5 : Option Addr) (c5 e5 : Nat) (n : Int) (tmps : Array Value) (b : Nat) (W : World) (h2 : tmps[2]?.getD undef = .pointer (some ⟨b, 0, none⟩)) (h3 : tmps[3]?.getD undef = .int .i64 n) (hK : Blk W b 26 #[.int .i8 x.st, .int .i64 x.pid, .int .i64 x.ep, .int .i64 x.tm, .int .i64 x.th, .slice A5 x.ps.length c5, .slice D5 x.qs.length e5, .int .i64 x.ag]) :
    (results Tryd.f44 tmps).run Tryd.prog W = .ok (.tuple #[(.agg #[.int .i8 x.st, .int .i64 x.pid, .int .i64 x.ep, .int .i64 x.tm, .int .i64 x.th, .slice A5 x.ps.length c5, .slice D5 x.qs.length e5, .int .i64 x.ag]), .int .i64 n]) W := by
  have LC := bk_load (P := Tryd.prog) 8 hK rfl
  clear hK
  simp [results, Tryd.results44, go_sem, h2, h3, LC]
set_option maxRecDepth 100000 in
set_option maxHeartbeats 2000000 in
theorem rcomp_a (c : Co) (A1 D1 : Option Addr) (c1 e1 : Nat)  (w : World) (h1 : CoR w w.heap.size c A1 D1) (h8 : -128 ≤ c.st) (h9 : c.st ≤ 127) (hmay : mayB c = false) :
    Calls Tryd.prog 44 #[(.agg #[.int .i8 c.st, .int .i64 c.pid, .int .i64 c.ep, .int .i64 c.tm, .int .i64 c.th, .slice A1 c.ps.length c1, .slice D1 c.qs.length e1, .int .i64 c.ag])] w (MvP c A1 D1 (compC c) (chkE c 3 true) w) := by

  have HE := Lib.hid (show chkE c 3 true = 2 by rw [chk_no hmay])
  have HC := Lib.hid (show compC c = Co0 by unfold compC; rw [if_pos (by rw [HE.out]; decide)])

  obtain ⟨W0, hW0⟩ : ∃ W0, W0 = (w.alloc (.cells #[.int .i8 c.st, .int .i64 c.pid, .int .i64 c.ep, .int .i64 c.tm, .int .i64 c.th, .slice A1 c.ps.length c1, .slice D1 c.qs.length e1, .int .i64 c.ag] 26)).alloc (.cells #[.int .i8 0, .int .i64 0, .int .i64 0, .int .i64 0, .int .i64 0, .slice none 0 0, .slice none 0 0, .int .i64 0] 26) := ⟨_, rfl⟩
  have s0 : W0.heap.size = w.heap.size + 1 + 1 := by rw [hW0]; simp
  have B0 : Below w.heap.size w W0 := by rw [hW0]; exact bal (bal (Below.refl _ _) _) _
  have K1 : Blk W0 w.heap.size 26 #[.int .i8 c.st, .int .i64 c.pid, .int .i64 c.ep, .int .i64 c.tm, .int .i64 c.th, .slice A1 c.ps.length c1, .slice D1 c.qs.length e1, .int .i64 c.ag] := by rw [hW0]; exact (Blk.new w 26 #[.int .i8 c.st, .int .i64 c.pid, .int .i64 c.ep, .int .i64 c.tm, .int .i64 c.th, .slice A1 c.ps.length c1, .slice D1 c.qs.length e1, .int .i64 c.ag]).alloc _
  have K3 : Blk W0 (w.heap.size + 1) 26 #[.int .i8 0, .int .i64 0, .int .i64 0, .int .i64 0, .int .i64 0, .slice none 0 0, .slice none 0 0, .int .i64 0] := by rw [hW0]; exact bk_new _ 26 #[.int .i8 0, .int .i64 0, .int .i64 0, .int .i64 0, .int .i64 0, .slice none 0 0, .slice none 0 0, .int .i64 0] (by simp)
  have HW := Lib.hid hW0
  have HS := Lib.hid s0
  have HB := Lib.hid B0
  have HK1 := Lib.hid K1
  have HK3 := Lib.hid K3
  have H1 := Lib.hid h1
  have MY := Lib.hid (rMay_any c A1 D1 c1 e1 w.heap.size W0 (h1.below B0) B0.size h8 h9)
  rw [hmay] at MY
  have L0 := bk_load (P := Tryd.prog) 8 K1 rfl
  clear hW0 s0 B0 K1 K3 h1 h8 h9 hmay 
  go_enter Tryd.func44, Tryd.ntmps44
  go_upto_region 1 with (fail)
  rw [← HW.out]
  go_wp2_with fail
  refine MY.out.mono ?_
  rintro e w1 ⟨rfl, b1⟩
  have B1 := Lib.hid (show Below W0.heap.size W0 w1 from b1)
  have kx := HK1.out.below b1 (by have := HS.out; omega)
  have x0 := kx.cell 0
  have x1 := kx.cell 1
  have x2 := kx.cell 2
  have x3 := kx.cell 3
  have x4 := kx.cell 4
  have x5 := kx.cell 5
  have x6 := kx.cell 6
  have L1 := bk_load (P := Tryd.prog) 8 kx rfl
  clear L0 b1 kx
  obtain ⟨W9, st, kk, fb, fh, fs⟩ := bk_store (P := Tryd.prog) (ty := 26) (cs := #[.int .i8 0, .int .i64 0, .int .i64 0, .int .i64 0, .int .i64 0, .slice none 0 0, .slice none 0 0, .int .i64 0]) 8 (HK3.out.below B1.out (by have := HS.out; omega)) infoCo rfl rfl (by simp [Value.oneCell'])
  have BB := Lib.hid (fb w.heap.size w (by omega) (HB.out.trans (B1.out.mono HB.out.size)))
  have KK := Lib.hid kk
  clear kk fb fh fs
  go_wp2_with fail
  refine bodyPost_ret (v := .tuple #[.agg #[.int .i8 0, .int .i64 0, .int .i64 0, .int .i64 0, .int .i64 0, .slice none 0 0, .slice none 0 0, .int .i64 0], .int .i64 2]) (rcomp_ret Co0 none none 0 0 _ _ (w.heap.size + 1) _ rfl rfl KK.out) rfl ?_
  rw [HE.out, HC.out]
  exact ⟨none, none, 0, 0, rfl, ⟨Reads.none_, Reads.none_, Nat.zero_le _, Nat.zero_le _⟩, BB.out, fun b hb _ _ => ⟨offB_none', offB_none'⟩⟩
set_option maxRecDepth 100000 in
set_option maxHeartbeats 2000000 in
theorem rcomp_b (c : Co) (A1 D1 : Option Addr) (c1 e1 : Nat)  (w : World) (h1 : CoR w w.heap.size c A1 D1) (h8 : -128 ≤ c.st) (h9 : c.st ≤ 127) (hmay : mayB c = true) (k3 : ¬ c.st = 3) (k4 : ¬ c.st = 4) :
    Calls Tryd.prog 44 #[(.agg #[.int .i8 c.st, .int .i64 c.pid, .int .i64 c.ep, .int .i64 c.tm, .int .i64 c.th, .slice A1 c.ps.length c1, .slice D1 c.qs.length e1, .int .i64 c.ag])] w (MvP c A1 D1 (compC c) (chkE c 3 true) w) := by

  have HE := Lib.hid (show chkE c 3 true = 180 by rw [chk_of hmay, begins_of hmay, if_pos (by have := may_st hmay; by_cases h0 : c.st = 0; rw [if_pos h0]; rfl; rw [if_neg h0]; by_cases h2 : c.st = 2; rw [if_pos h2]; rfl; rw [if_neg h2, if_pos ((idl_iff c).2 (by omega))]; rfl)])
  have HC := Lib.hid (show compC c = Co0 by unfold compC; rw [if_pos (by rw [HE.out]; decide)])
  have z3 : (c.st == 3) = false := by simpa using k3
  have z4 : (c.st == 4) = false := by simpa using k4
  obtain ⟨W0, hW0⟩ : ∃ W0, W0 = (w.alloc (.cells #[.int .i8 c.st, .int .i64 c.pid, .int .i64 c.ep, .int .i64 c.tm, .int .i64 c.th, .slice A1 c.ps.length c1, .slice D1 c.qs.length e1, .int .i64 c.ag] 26)).alloc (.cells #[.int .i8 0, .int .i64 0, .int .i64 0, .int .i64 0, .int .i64 0, .slice none 0 0, .slice none 0 0, .int .i64 0] 26) := ⟨_, rfl⟩
  have s0 : W0.heap.size = w.heap.size + 1 + 1 := by rw [hW0]; simp
  have B0 : Below w.heap.size w W0 := by rw [hW0]; exact bal (bal (Below.refl _ _) _) _
  have K1 : Blk W0 w.heap.size 26 #[.int .i8 c.st, .int .i64 c.pid, .int .i64 c.ep, .int .i64 c.tm, .int .i64 c.th, .slice A1 c.ps.length c1, .slice D1 c.qs.length e1, .int .i64 c.ag] := by rw [hW0]; exact (Blk.new w 26 #[.int .i8 c.st, .int .i64 c.pid, .int .i64 c.ep, .int .i64 c.tm, .int .i64 c.th, .slice A1 c.ps.length c1, .slice D1 c.qs.length e1, .int .i64 c.ag]).alloc _
  have K3 : Blk W0 (w.heap.size + 1) 26 #[.int .i8 0, .int .i64 0, .int .i64 0, .int .i64 0, .int .i64 0, .slice none 0 0, .slice none 0 0, .int .i64 0] := by rw [hW0]; exact bk_new _ 26 #[.int .i8 0, .int .i64 0, .int .i64 0, .int .i64 0, .int .i64 0, .slice none 0 0, .slice none 0 0, .int .i64 0] (by simp)
  have HW := Lib.hid hW0
  have HS := Lib.hid s0
  have HB := Lib.hid B0
  have HK1 := Lib.hid K1
  have HK3 := Lib.hid K3
  have H1 := Lib.hid h1
  have MY := Lib.hid (rMay_any c A1 D1 c1 e1 w.heap.size W0 (h1.below B0) B0.size h8 h9)
  rw [hmay] at MY
  have L0 := bk_load (P := Tryd.prog) 8 K1 rfl
  clear hW0 s0 B0 K1 K3 h1 h8 h9 hmay k3 k4
  go_enter Tryd.func44, Tryd.ntmps44
  go_upto_region 1 with (fail)
  rw [← HW.out]
  go_wp2_with fail
  refine MY.out.mono ?_
  rintro e w1 ⟨rfl, b1⟩
  have B1 := Lib.hid (show Below W0.heap.size W0 w1 from b1)
  have kx := HK1.out.below b1 (by have := HS.out; omega)
  have x0 := kx.cell 0
  have x1 := kx.cell 1
  have x2 := kx.cell 2
  have x3 := kx.cell 3
  have x4 := kx.cell 4
  have x5 := kx.cell 5
  have x6 := kx.cell 6
  have L1 := bk_load (P := Tryd.prog) 8 kx rfl
  clear L0 b1 kx
  obtain ⟨W2, st2, k2, b2, s2⟩ := bk_fresh (P := Tryd.prog) w1 26 #[.int .i8 0, .int .i64 0, .int .i64 0, .int .i64 0, .int .i64 0, .slice none 0 0, .slice none 0 0, .int .i64 0] #[.int .i8 0, .int .i64 c.pid, .int .i64 c.ep, .int .i64 c.tm, .int .i64 0, .slice none 0 0, .slice none 0 0, .int .i64 0] 8 infoCo rfl rfl (by simp [Value.oneCell'])
  have BF := Lib.hid (B1.out.trans (b2.mono B1.out.size))
  have NE := Lib.hid (show ¬ w.heap.size + 1 = w1.heap.size by have := B1.out.size; have := HS.out; omega)
  have NE0 := Lib.hid (show ¬ w.heap.size = w1.heap.size by have := B1.out.size; have := HS.out; omega)
  have K2 := Lib.hid k2
  have kz := HK1.out.below BF.out (by have := HS.out; omega)
  have y0 := kz.cell 0
  have y4 := kz.cell 4
  have k3 := HK3.out.below BF.out (by have := HS.out; omega)
  have KR := Lib.hid k3
  clear k2 b2 s2 kz k3
  obtain ⟨W9, st9, kk, fb, fh, fs⟩ := bk_store (P := Tryd.prog) (ty := 26) (cs := #[.int .i8 0, .int .i64 0, .int .i64 0, .int .i64 0, .int .i64 0, .slice none 0 0, .slice none 0 0, .int .i64 0]) 8 KR.out infoCo rfl rfl (by simp [Value.oneCell'])
  have BB := Lib.hid (fb w.heap.size w (by omega) (HB.out.trans (BF.out.mono HB.out.size)))
  have KK := Lib.hid kk
  clear kk fb fh fs
  go_wp2_with fail
  refine bodyPost_ret (v := .tuple #[.agg #[.int .i8 0, .int .i64 0, .int .i64 0, .int .i64 0, .int .i64 0, .slice none 0 0, .slice none 0 0, .int .i64 0], .int .i64 180]) (rcomp_ret Co0 none none 0 0 _ _ (w.heap.size + 1) _ rfl rfl KK.out) rfl ?_
  rw [HE.out, HC.out]
  exact ⟨none, none, 0, 0, rfl, ⟨Reads.none_, Reads.none_, Nat.zero_le _, Nat.zero_le _⟩, BB.out, fun b hb _ _ => ⟨offB_none', offB_none'⟩⟩
set_option maxRecDepth 100000 in
set_option maxHeartbeats 2000000 in
theorem rcomp_c (c : Co) (A1 D1 : Option Addr) (c1 e1 : Nat)  (w : World) (h1 : CoR w w.heap.size c A1 D1) (h8 : -128 ≤ c.st) (h9 : c.st ≤ 127) (hmay : mayB c = true) (k3 : c.st = 3) :
    Calls Tryd.prog 44 #[(.agg #[.int .i8 c.st, .int .i64 c.pid, .int .i64 c.ep, .int .i64 c.tm, .int .i64 c.th, .slice A1 c.ps.length c1, .slice D1 c.qs.length e1, .int .i64 c.ag])] w (MvP c A1 D1 (compC c) (chkE c 3 true) w) := by

  have HE := Lib.hid (show chkE c 3 true = 0 by rw [chk_of hmay, begins_of hmay, if_neg (show ¬ c.st = 0 by omega), if_neg (show ¬ c.st = 2 by omega), if_neg (show ¬ idlB c = true from fun h => by have := (idl_iff c).1 h; omega)]; rfl)
  have HC := Lib.hid (show compC c = ⟨5, c.pid, c.ep, c.tm, 0, [], [], 0⟩ by unfold compC; rw [if_neg (by rw [HE.out]; decide)]; rw [if_neg (by have := (may_prep hmay (.inl k3)).2.2.2.2 k3; omega), if_neg (by omega)])
  have z3 : (c.st == 3) = true := by rw [k3]; rfl
  have z4 : (c.st == 4) = false := by rw [k3]; rfl
  obtain ⟨W0, hW0⟩ : ∃ W0, W0 = (w.alloc (.cells #[.int .i8 c.st, .int .i64 c.pid, .int .i64 c.ep, .int .i64 c.tm, .int .i64 c.th, .slice A1 c.ps.length c1, .slice D1 c.qs.length e1, .int .i64 c.ag] 26)).alloc (.cells #[.int .i8 0, .int .i64 0, .int .i64 0, .int .i64 0, .int .i64 0, .slice none 0 0, .slice none 0 0, .int .i64 0] 26) := ⟨_, rfl⟩
  have s0 : W0.heap.size = w.heap.size + 1 + 1 := by rw [hW0]; simp
  have B0 : Below w.heap.size w W0 := by rw [hW0]; exact bal (bal (Below.refl _ _) _) _
  have K1 : Blk W0 w.heap.size 26 #[.int .i8 c.st, .int .i64 c.pid, .int .i64 c.ep, .int .i64 c.tm, .int .i64 c.th, .slice A1 c.ps.length c1, .slice D1 c.qs.length e1, .int .i64 c.ag] := by rw [hW0]; exact (Blk.new w 26 #[.int .i8 c.st, .int .i64 c.pid, .int .i64 c.ep, .int .i64 c.tm, .int .i64 c.th, .slice A1 c.ps.length c1, .slice D1 c.qs.length e1, .int .i64 c.ag]).alloc _
  have K3 : Blk W0 (w.heap.size + 1) 26 #[.int .i8 0, .int .i64 0, .int .i64 0, .int .i64 0, .int .i64 0, .slice none 0 0, .slice none 0 0, .int .i64 0] := by rw [hW0]; exact bk_new _ 26 #[.int .i8 0, .int .i64 0, .int .i64 0, .int .i64 0, .int .i64 0, .slice none 0 0, .slice none 0 0, .int .i64 0] (by simp)
  have HW := Lib.hid hW0
  have HS := Lib.hid s0
  have HB := Lib.hid B0
  have HK1 := Lib.hid K1
  have HK3 := Lib.hid K3
  have H1 := Lib.hid h1
  have MY := Lib.hid (rMay_any c A1 D1 c1 e1 w.heap.size W0 (h1.below B0) B0.size h8 h9)
  rw [hmay] at MY
  have L0 := bk_load (P := Tryd.prog) 8 K1 rfl
  clear hW0 s0 B0 K1 K3 h1 h8 h9 hmay k3
  go_enter Tryd.func44, Tryd.ntmps44
  go_upto_region 1 with (fail)
  rw [← HW.out]
  go_wp2_with fail
  refine MY.out.mono ?_
  rintro e w1 ⟨rfl, b1⟩
  have B1 := Lib.hid (show Below W0.heap.size W0 w1 from b1)
  have kx := HK1.out.below b1 (by have := HS.out; omega)
  have x0 := kx.cell 0
  have x1 := kx.cell 1
  have x2 := kx.cell 2
  have x3 := kx.cell 3
  have x4 := kx.cell 4
  have x5 := kx.cell 5
  have x6 := kx.cell 6
  have L1 := bk_load (P := Tryd.prog) 8 kx rfl
  clear L0 b1 kx
  obtain ⟨W2, st2, k2, b2, s2⟩ := bk_fresh (P := Tryd.prog) w1 26 #[.int .i8 0, .int .i64 0, .int .i64 0, .int .i64 0, .int .i64 0, .slice none 0 0, .slice none 0 0, .int .i64 0] #[.int .i8 0, .int .i64 c.pid, .int .i64 c.ep, .int .i64 c.tm, .int .i64 0, .slice none 0 0, .slice none 0 0, .int .i64 0] 8 infoCo rfl rfl (by simp [Value.oneCell'])
  have BF := Lib.hid (B1.out.trans (b2.mono B1.out.size))
  have NE := Lib.hid (show ¬ w.heap.size + 1 = w1.heap.size by have := B1.out.size; have := HS.out; omega)
  have NE0 := Lib.hid (show ¬ w.heap.size = w1.heap.size by have := B1.out.size; have := HS.out; omega)
  have K2 := Lib.hid k2
  have kz := HK1.out.below BF.out (by have := HS.out; omega)
  have y0 := kz.cell 0
  have y4 := kz.cell 4
  have k3 := HK3.out.below BF.out (by have := HS.out; omega)
  have KR := Lib.hid k3
  clear k2 b2 s2 kz k3
  have st_0 := store_i8 5 (K2.out.cell 0) (K2.out.frozen 0)
  have k1 : Blk (W2.setCell ⟨w1.heap.size, 0, none⟩ (.int .i8 5)) w1.heap.size 26 #[.int .i8 5, .int .i64 c.pid, .int .i64 c.ep, .int .i64 c.tm, .int .i64 0, .slice none 0 0, .slice none 0 0, .int .i64 0] := K2.out.set_ 0 (.int .i8 5)
  have kk1 : Blk (W2.setCell ⟨w1.heap.size, 0, none⟩ (.int .i8 5)) (w.heap.size + 1) 26 #[.int .i8 0, .int .i64 0, .int .i64 0, .int .i64 0, .int .i64 0, .slice none 0 0, .slice none 0 0, .int .i64 0] := KR.out.far (p := ⟨w1.heap.size, 0, none⟩) NE.out (.int .i8 5)
  have bb1 : Below W0.heap.size W0 (W2.setCell ⟨w1.heap.size, 0, none⟩ (.int .i8 5)) := BF.out.setCell (p := ⟨w1.heap.size, 0, none⟩) B1.out.size (.int .i8 5)
  have L8 := bk_load (P := Tryd.prog) 8 k1 rfl
  have K38 := Lib.hid kk1
  have BB8 := Lib.hid bb1
  clear k1 kk1 bb1
  go_upto_region 14 with (fail)
  generalize (W2.setCell ⟨w1.heap.size, 0, none⟩ (.int .i8 5)) = W8 at *
  obtain ⟨W9, st9, kk, fb, fh, fs⟩ := bk_store (P := Tryd.prog) (ty := 26) (cs := #[.int .i8 5, .int .i64 c.pid, .int .i64 c.ep, .int .i64 c.tm, .int .i64 0, .slice none 0 0, .slice none 0 0, .int .i64 0]) 8 K38.out infoCo rfl rfl (by simp [Value.oneCell'])
  have BB := Lib.hid (fb w.heap.size w (by omega) (HB.out.trans (BB8.out.mono HB.out.size)))
  have KK := Lib.hid kk
  clear kk fb fh fs
  go_wp2_with fail
  refine bodyPost_ret (v := .tuple #[.agg #[.int .i8 5, .int .i64 c.pid, .int .i64 c.ep, .int .i64 c.tm, .int .i64 0, .slice none 0 0, .slice none 0 0, .int .i64 0], .int .i64 0]) (rcomp_ret ⟨5, c.pid, c.ep, c.tm, 0, [], [], 0⟩ none none 0 0 _ _ (w.heap.size + 1) _ rfl rfl KK.out) rfl ?_
  rw [HE.out, HC.out]
  exact ⟨none, none, 0, 0, rfl, ⟨Reads.none_, Reads.none_, Nat.zero_le _, Nat.zero_le _⟩, BB.out, fun b hb _ _ => ⟨offB_none', offB_none'⟩⟩
set_option maxRecDepth 100000 in
set_option maxHeartbeats 2000000 in
theorem rcomp_d (c : Co) (A1 D1 : Option Addr) (c1 e1 : Nat)  (w : World) (h1 : CoR w w.heap.size c A1 D1) (h8 : -128 ≤ c.st) (h9 : c.st ≤ 127) (hmay : mayB c = true) (k4 : c.st = 4) (kt : ¬ 0 < c.th) :
    Calls Tryd.prog 44 #[(.agg #[.int .i8 c.st, .int .i64 c.pid, .int .i64 c.ep, .int .i64 c.tm, .int .i64 c.th, .slice A1 c.ps.length c1, .slice D1 c.qs.length e1, .int .i64 c.ag])] w (MvP c A1 D1 (compC c) (chkE c 3 true) w) := by

  have HE := Lib.hid (show chkE c 3 true = 0 by rw [chk_of hmay, begins_of hmay, if_neg (show ¬ c.st = 0 by omega), if_neg (show ¬ c.st = 2 by omega), if_neg (show ¬ idlB c = true from fun h => by have := (idl_iff c).1 h; omega)]; rfl)
  have HC := Lib.hid (show compC c = ⟨6, c.pid, c.ep, c.tm, 0, [], [], 0⟩ by unfold compC; rw [if_neg (by rw [HE.out]; decide)]; rw [if_neg kt, if_pos k4])
  have z3 : (c.st == 3) = false := by rw [k4]; rfl
  have z4 : (c.st == 4) = true := by rw [k4]; rfl
  have zt : decide (0 < c.th) = false := by simpa using kt
  obtain ⟨W0, hW0⟩ : ∃ W0, W0 = (w.alloc (.cells #[.int .i8 c.st, .int .i64 c.pid, .int .i64 c.ep, .int .i64 c.tm, .int .i64 c.th, .slice A1 c.ps.length c1, .slice D1 c.qs.length e1, .int .i64 c.ag] 26)).alloc (.cells #[.int .i8 0, .int .i64 0, .int .i64 0, .int .i64 0, .int .i64 0, .slice none 0 0, .slice none 0 0, .int .i64 0] 26) := ⟨_, rfl⟩
  have s0 : W0.heap.size = w.heap.size + 1 + 1 := by rw [hW0]; simp
  have B0 : Below w.heap.size w W0 := by rw [hW0]; exact bal (bal (Below.refl _ _) _) _
  have K1 : Blk W0 w.heap.size 26 #[.int .i8 c.st, .int .i64 c.pid, .int .i64 c.ep, .int .i64 c.tm, .int .i64 c.th, .slice A1 c.ps.length c1, .slice D1 c.qs.length e1, .int .i64 c.ag] := by rw [hW0]; exact (Blk.new w 26 #[.int .i8 c.st, .int .i64 c.pid, .int .i64 c.ep, .int .i64 c.tm, .int .i64 c.th, .slice A1 c.ps.length c1, .slice D1 c.qs.length e1, .int .i64 c.ag]).alloc _
  have K3 : Blk W0 (w.heap.size + 1) 26 #[.int .i8 0, .int .i64 0, .int .i64 0, .int .i64 0, .int .i64 0, .slice none 0 0, .slice none 0 0, .int .i64 0] := by rw [hW0]; exact bk_new _ 26 #[.int .i8 0, .int .i64 0, .int .i64 0, .int .i64 0, .int .i64 0, .slice none 0 0, .slice none 0 0, .int .i64 0] (by simp)
  have HW := Lib.hid hW0
  have HS := Lib.hid s0
  have HB := Lib.hid B0
  have HK1 := Lib.hid K1
  have HK3 := Lib.hid K3
  have H1 := Lib.hid h1
  have MY := Lib.hid (rMay_any c A1 D1 c1 e1 w.heap.size W0 (h1.below B0) B0.size h8 h9)
  rw [hmay] at MY
  have L0 := bk_load (P := Tryd.prog) 8 K1 rfl
  clear hW0 s0 B0 K1 K3 h1 h8 h9 hmay k4 kt
  go_enter Tryd.func44, Tryd.ntmps44
  go_upto_region 1 with (fail)
  rw [← HW.out]
  go_wp2_with fail
  refine MY.out.mono ?_
  rintro e w1 ⟨rfl, b1⟩
  have B1 := Lib.hid (show Below W0.heap.size W0 w1 from b1)
  have kx := HK1.out.below b1 (by have := HS.out; omega)
  have x0 := kx.cell 0
  have x1 := kx.cell 1
  have x2 := kx.cell 2
  have x3 := kx.cell 3
  have x4 := kx.cell 4
  have x5 := kx.cell 5
  have x6 := kx.cell 6
  have L1 := bk_load (P := Tryd.prog) 8 kx rfl
  clear L0 b1 kx
  obtain ⟨W2, st2, k2, b2, s2⟩ := bk_fresh (P := Tryd.prog) w1 26 #[.int .i8 0, .int .i64 0, .int .i64 0, .int .i64 0, .int .i64 0, .slice none 0 0, .slice none 0 0, .int .i64 0] #[.int .i8 0, .int .i64 c.pid, .int .i64 c.ep, .int .i64 c.tm, .int .i64 0, .slice none 0 0, .slice none 0 0, .int .i64 0] 8 infoCo rfl rfl (by simp [Value.oneCell'])
  have BF := Lib.hid (B1.out.trans (b2.mono B1.out.size))
  have NE := Lib.hid (show ¬ w.heap.size + 1 = w1.heap.size by have := B1.out.size; have := HS.out; omega)
  have NE0 := Lib.hid (show ¬ w.heap.size = w1.heap.size by have := B1.out.size; have := HS.out; omega)
  have K2 := Lib.hid k2
  have kz := HK1.out.below BF.out (by have := HS.out; omega)
  have y0 := kz.cell 0
  have y4 := kz.cell 4
  have k3 := HK3.out.below BF.out (by have := HS.out; omega)
  have KR := Lib.hid k3
  clear k2 b2 s2 kz k3
  have st_0 := store_i8 6 (K2.out.cell 0) (K2.out.frozen 0)
  have k1 : Blk (W2.setCell ⟨w1.heap.size, 0, none⟩ (.int .i8 6)) w1.heap.size 26 #[.int .i8 6, .int .i64 c.pid, .int .i64 c.ep, .int .i64 c.tm, .int .i64 0, .slice none 0 0, .slice none 0 0, .int .i64 0] := K2.out.set_ 0 (.int .i8 6)
  have kk1 : Blk (W2.setCell ⟨w1.heap.size, 0, none⟩ (.int .i8 6)) (w.heap.size + 1) 26 #[.int .i8 0, .int .i64 0, .int .i64 0, .int .i64 0, .int .i64 0, .slice none 0 0, .slice none 0 0, .int .i64 0] := KR.out.far (p := ⟨w1.heap.size, 0, none⟩) NE.out (.int .i8 6)
  have bb1 : Below W0.heap.size W0 (W2.setCell ⟨w1.heap.size, 0, none⟩ (.int .i8 6)) := BF.out.setCell (p := ⟨w1.heap.size, 0, none⟩) B1.out.size (.int .i8 6)
  have L8 := bk_load (P := Tryd.prog) 8 k1 rfl
  have K38 := Lib.hid kk1
  have BB8 := Lib.hid bb1
  clear k1 kk1 bb1
  go_upto_region 14 with (fail)
  generalize (W2.setCell ⟨w1.heap.size, 0, none⟩ (.int .i8 6)) = W8 at *
  obtain ⟨W9, st9, kk, fb, fh, fs⟩ := bk_store (P := Tryd.prog) (ty := 26) (cs := #[.int .i8 6, .int .i64 c.pid, .int .i64 c.ep, .int .i64 c.tm, .int .i64 0, .slice none 0 0, .slice none 0 0, .int .i64 0]) 8 K38.out infoCo rfl rfl (by simp [Value.oneCell'])
  have BB := Lib.hid (fb w.heap.size w (by omega) (HB.out.trans (BB8.out.mono HB.out.size)))
  have KK := Lib.hid kk
  clear kk fb fh fs
  go_wp2_with fail
  refine bodyPost_ret (v := .tuple #[.agg #[.int .i8 6, .int .i64 c.pid, .int .i64 c.ep, .int .i64 c.tm, .int .i64 0, .slice none 0 0, .slice none 0 0, .int .i64 0], .int .i64 0]) (rcomp_ret ⟨6, c.pid, c.ep, c.tm, 0, [], [], 0⟩ none none 0 0 _ _ (w.heap.size + 1) _ rfl rfl KK.out) rfl ?_
  rw [HE.out, HC.out]
  exact ⟨none, none, 0, 0, rfl, ⟨Reads.none_, Reads.none_, Nat.zero_le _, Nat.zero_le _⟩, BB.out, fun b hb _ _ => ⟨offB_none', offB_none'⟩⟩
set_option maxRecDepth 100000 in
set_option maxHeartbeats 2000000 in
theorem rcomp_e (c : Co) (A1 D1 : Option Addr) (c1 e1 : Nat)  (w : World) (h1 : CoR w w.heap.size c A1 D1) (h8 : -128 ≤ c.st) (h9 : c.st ≤ 127) (hmay : mayB c = true) (k4 : c.st = 4) (kt : 0 < c.th) :
    Calls Tryd.prog 44 #[(.agg #[.int .i8 c.st, .int .i64 c.pid, .int .i64 c.ep, .int .i64 c.tm, .int .i64 c.th, .slice A1 c.ps.length c1, .slice D1 c.qs.length e1, .int .i64 c.ag])] w (MvP c A1 D1 (compC c) (chkE c 3 true) w) := by

  have HE := Lib.hid (show chkE c 3 true = 0 by rw [chk_of hmay, begins_of hmay, if_neg (show ¬ c.st = 0 by omega), if_neg (show ¬ c.st = 2 by omega), if_neg (show ¬ idlB c = true from fun h => by have := (idl_iff c).1 h; omega)]; rfl)
  have HC := Lib.hid (show compC c = ⟨1, c.pid, c.ep + 1, c.th, 0, [], [], 0⟩ by unfold compC; rw [if_neg (by rw [HE.out]; decide)]; rw [if_pos kt])
  have z3 : (c.st == 3) = false := by rw [k4]; rfl
  have z4 : (c.st == 4) = true := by rw [k4]; rfl
  have zt : decide (0 < c.th) = true := by simpa using kt
  have cw : IntKind.i64.wrap (c.ep + 1) = c.ep + 1 := IntWalk.i64_in _ (by have := may_ep hmay; omega)
  obtain ⟨W0, hW0⟩ : ∃ W0, W0 = (w.alloc (.cells #[.int .i8 c.st, .int .i64 c.pid, .int .i64 c.ep, .int .i64 c.tm, .int .i64 c.th, .slice A1 c.ps.length c1, .slice D1 c.qs.length e1, .int .i64 c.ag] 26)).alloc (.cells #[.int .i8 0, .int .i64 0, .int .i64 0, .int .i64 0, .int .i64 0, .slice none 0 0, .slice none 0 0, .int .i64 0] 26) := ⟨_, rfl⟩
  have s0 : W0.heap.size = w.heap.size + 1 + 1 := by rw [hW0]; simp
  have B0 : Below w.heap.size w W0 := by rw [hW0]; exact bal (bal (Below.refl _ _) _) _
  have K1 : Blk W0 w.heap.size 26 #[.int .i8 c.st, .int .i64 c.pid, .int .i64 c.ep, .int .i64 c.tm, .int .i64 c.th, .slice A1 c.ps.length c1, .slice D1 c.qs.length e1, .int .i64 c.ag] := by rw [hW0]; exact (Blk.new w 26 #[.int .i8 c.st, .int .i64 c.pid, .int .i64 c.ep, .int .i64 c.tm, .int .i64 c.th, .slice A1 c.ps.length c1, .slice D1 c.qs.length e1, .int .i64 c.ag]).alloc _
  have K3 : Blk W0 (w.heap.size + 1) 26 #[.int .i8 0, .int .i64 0, .int .i64 0, .int .i64 0, .int .i64 0, .slice none 0 0, .slice none 0 0, .int .i64 0] := by rw [hW0]; exact bk_new _ 26 #[.int .i8 0, .int .i64 0, .int .i64 0, .int .i64 0, .int .i64 0, .slice none 0 0, .slice none 0 0, .int .i64 0] (by simp)
  have HW := Lib.hid hW0
  have HS := Lib.hid s0
  have HB := Lib.hid B0
  have HK1 := Lib.hid K1
  have HK3 := Lib.hid K3
  have H1 := Lib.hid h1
  have MY := Lib.hid (rMay_any c A1 D1 c1 e1 w.heap.size W0 (h1.below B0) B0.size h8 h9)
  rw [hmay] at MY
  have L0 := bk_load (P := Tryd.prog) 8 K1 rfl
  clear hW0 s0 B0 K1 K3 h1 h8 h9 hmay k4 kt
  go_enter Tryd.func44, Tryd.ntmps44
  go_upto_region 1 with (fail)
  rw [← HW.out]
  go_wp2_with fail
  refine MY.out.mono ?_
  rintro e w1 ⟨rfl, b1⟩
  have B1 := Lib.hid (show Below W0.heap.size W0 w1 from b1)
  have kx := HK1.out.below b1 (by have := HS.out; omega)
  have x0 := kx.cell 0
  have x1 := kx.cell 1
  have x2 := kx.cell 2
  have x3 := kx.cell 3
  have x4 := kx.cell 4
  have x5 := kx.cell 5
  have x6 := kx.cell 6
  have L1 := bk_load (P := Tryd.prog) 8 kx rfl
  clear L0 b1 kx
  obtain ⟨W2, st2, k2, b2, s2⟩ := bk_fresh (P := Tryd.prog) w1 26 #[.int .i8 0, .int .i64 0, .int .i64 0, .int .i64 0, .int .i64 0, .slice none 0 0, .slice none 0 0, .int .i64 0] #[.int .i8 0, .int .i64 c.pid, .int .i64 c.ep, .int .i64 c.tm, .int .i64 0, .slice none 0 0, .slice none 0 0, .int .i64 0] 8 infoCo rfl rfl (by simp [Value.oneCell'])
  have BF := Lib.hid (B1.out.trans (b2.mono B1.out.size))
  have NE := Lib.hid (show ¬ w.heap.size + 1 = w1.heap.size by have := B1.out.size; have := HS.out; omega)
  have NE0 := Lib.hid (show ¬ w.heap.size = w1.heap.size by have := B1.out.size; have := HS.out; omega)
  have K2 := Lib.hid k2
  have kz := HK1.out.below BF.out (by have := HS.out; omega)
  have y0 := kz.cell 0
  have y4 := kz.cell 4
  have k3 := HK3.out.below BF.out (by have := HS.out; omega)
  have KR := Lib.hid k3
  clear k2 b2 s2 kz k3
  have st_0 := store_i8 6 (K2.out.cell 0) (K2.out.frozen 0)
  have k1 : Blk (W2.setCell ⟨w1.heap.size, 0, none⟩ (.int .i8 6)) w1.heap.size 26 #[.int .i8 6, .int .i64 c.pid, .int .i64 c.ep, .int .i64 c.tm, .int .i64 0, .slice none 0 0, .slice none 0 0, .int .i64 0] := K2.out.set_ 0 (.int .i8 6)
  have kk1 : Blk (W2.setCell ⟨w1.heap.size, 0, none⟩ (.int .i8 6)) (w.heap.size + 1) 26 #[.int .i8 0, .int .i64 0, .int .i64 0, .int .i64 0, .int .i64 0, .slice none 0 0, .slice none 0 0, .int .i64 0] := KR.out.far (p := ⟨w1.heap.size, 0, none⟩) NE.out (.int .i8 6)
  have bb1 : Below W0.heap.size W0 (W2.setCell ⟨w1.heap.size, 0, none⟩ (.int .i8 6)) := BF.out.setCell (p := ⟨w1.heap.size, 0, none⟩) B1.out.size (.int .i8 6)
  have c1_2 := k1.cell 2
  have y4_1 := (HK1.out.below bb1 (by have := HS.out; omega)).cell 4
  have st_1 := store_i8 1 (k1.cell 0) (k1.frozen 0)
  have k2 : Blk ((W2.setCell ⟨w1.heap.size, 0, none⟩ (.int .i8 6)).setCell ⟨w1.heap.size, 0, none⟩ (.int .i8 1)) w1.heap.size 26 #[.int .i8 1, .int .i64 c.pid, .int .i64 c.ep, .int .i64 c.tm, .int .i64 0, .slice none 0 0, .slice none 0 0, .int .i64 0] := k1.set_ 0 (.int .i8 1)
  have kk2 : Blk ((W2.setCell ⟨w1.heap.size, 0, none⟩ (.int .i8 6)).setCell ⟨w1.heap.size, 0, none⟩ (.int .i8 1)) (w.heap.size + 1) 26 #[.int .i8 0, .int .i64 0, .int .i64 0, .int .i64 0, .int .i64 0, .slice none 0 0, .slice none 0 0, .int .i64 0] := kk1.far (p := ⟨w1.heap.size, 0, none⟩) NE.out (.int .i8 1)
  have bb2 : Below W0.heap.size W0 ((W2.setCell ⟨w1.heap.size, 0, none⟩ (.int .i8 6)).setCell ⟨w1.heap.size, 0, none⟩ (.int .i8 1)) := bb1.setCell (p := ⟨w1.heap.size, 0, none⟩) B1.out.size (.int .i8 1)
  have c2_2 := k2.cell 2
  have y4_2 := (HK1.out.below bb2 (by have := HS.out; omega)).cell 4
  have st_2 := store_i64 (c.ep + 1) (k2.cell 2) (k2.frozen 2)
  have k3 : Blk (((W2.setCell ⟨w1.heap.size, 0, none⟩ (.int .i8 6)).setCell ⟨w1.heap.size, 0, none⟩ (.int .i8 1)).setCell ⟨w1.heap.size, 2, none⟩ (.int .i64 (c.ep + 1))) w1.heap.size 26 #[.int .i8 1, .int .i64 c.pid, .int .i64 (c.ep + 1), .int .i64 c.tm, .int .i64 0, .slice none 0 0, .slice none 0 0, .int .i64 0] := k2.set_ 2 (.int .i64 (c.ep + 1))
  have kk3 : Blk (((W2.setCell ⟨w1.heap.size, 0, none⟩ (.int .i8 6)).setCell ⟨w1.heap.size, 0, none⟩ (.int .i8 1)).setCell ⟨w1.heap.size, 2, none⟩ (.int .i64 (c.ep + 1))) (w.heap.size + 1) 26 #[.int .i8 0, .int .i64 0, .int .i64 0, .int .i64 0, .int .i64 0, .slice none 0 0, .slice none 0 0, .int .i64 0] := kk2.far (p := ⟨w1.heap.size, 2, none⟩) NE.out (.int .i64 (c.ep + 1))
  have bb3 : Below W0.heap.size W0 (((W2.setCell ⟨w1.heap.size, 0, none⟩ (.int .i8 6)).setCell ⟨w1.heap.size, 0, none⟩ (.int .i8 1)).setCell ⟨w1.heap.size, 2, none⟩ (.int .i64 (c.ep + 1))) := bb2.setCell (p := ⟨w1.heap.size, 2, none⟩) B1.out.size (.int .i64 (c.ep + 1))
  have c3_2 := k3.cell 2
  have y4_3 := (HK1.out.below bb3 (by have := HS.out; omega)).cell 4
  have st_3 := store_i64 c.th (k3.cell 3) (k3.frozen 3)
  have k4 : Blk ((((W2.setCell ⟨w1.heap.size, 0, none⟩ (.int .i8 6)).setCell ⟨w1.heap.size, 0, none⟩ (.int .i8 1)).setCell ⟨w1.heap.size, 2, none⟩ (.int .i64 (c.ep + 1))).setCell ⟨w1.heap.size, 3, none⟩ (.int .i64 c.th)) w1.heap.size 26 #[.int .i8 1, .int .i64 c.pid, .int .i64 (c.ep + 1), .int .i64 c.th, .int .i64 0, .slice none 0 0, .slice none 0 0, .int .i64 0] := k3.set_ 3 (.int .i64 c.th)
  have kk4 : Blk ((((W2.setCell ⟨w1.heap.size, 0, none⟩ (.int .i8 6)).setCell ⟨w1.heap.size, 0, none⟩ (.int .i8 1)).setCell ⟨w1.heap.size, 2, none⟩ (.int .i64 (c.ep + 1))).setCell ⟨w1.heap.size, 3, none⟩ (.int .i64 c.th)) (w.heap.size + 1) 26 #[.int .i8 0, .int .i64 0, .int .i64 0, .int .i64 0, .int .i64 0, .slice none 0 0, .slice none 0 0, .int .i64 0] := kk3.far (p := ⟨w1.heap.size, 3, none⟩) NE.out (.int .i64 c.th)
  have bb4 : Below W0.heap.size W0 ((((W2.setCell ⟨w1.heap.size, 0, none⟩ (.int .i8 6)).setCell ⟨w1.heap.size, 0, none⟩ (.int .i8 1)).setCell ⟨w1.heap.size, 2, none⟩ (.int .i64 (c.ep + 1))).setCell ⟨w1.heap.size, 3, none⟩ (.int .i64 c.th)) := bb3.setCell (p := ⟨w1.heap.size, 3, none⟩) B1.out.size (.int .i64 c.th)
  have L8 := bk_load (P := Tryd.prog) 8 k4 rfl
  have K38 := Lib.hid kk4
  have BB8 := Lib.hid bb4
  clear k1 kk1 bb1 k2 kk2 bb2 k3 kk3 bb3 k4 kk4 bb4
  go_upto_region 14 with (fail)
  generalize ((((W2.setCell ⟨w1.heap.size, 0, none⟩ (.int .i8 6)).setCell ⟨w1.heap.size, 0, none⟩ (.int .i8 1)).setCell ⟨w1.heap.size, 2, none⟩ (.int .i64 (c.ep + 1))).setCell ⟨w1.heap.size, 3, none⟩ (.int .i64 c.th)) = W8 at *
  obtain ⟨W9, st9, kk, fb, fh, fs⟩ := bk_store (P := Tryd.prog) (ty := 26) (cs := #[.int .i8 1, .int .i64 c.pid, .int .i64 (c.ep + 1), .int .i64 c.th, .int .i64 0, .slice none 0 0, .slice none 0 0, .int .i64 0]) 8 K38.out infoCo rfl rfl (by simp [Value.oneCell'])
  have BB := Lib.hid (fb w.heap.size w (by omega) (HB.out.trans (BB8.out.mono HB.out.size)))
  have KK := Lib.hid kk
  clear kk fb fh fs
  go_wp2_with fail
  refine bodyPost_ret (v := .tuple #[.agg #[.int .i8 1, .int .i64 c.pid, .int .i64 (c.ep + 1), .int .i64 c.th, .int .i64 0, .slice none 0 0, .slice none 0 0, .int .i64 0], .int .i64 0]) (rcomp_ret ⟨1, c.pid, c.ep + 1, c.th, 0, [], [], 0⟩ none none 0 0 _ _ (w.heap.size + 1) _ rfl rfl KK.out) rfl ?_
  rw [HE.out, HC.out]
  exact ⟨none, none, 0, 0, rfl, ⟨Reads.none_, Reads.none_, Nat.zero_le _, Nat.zero_le _⟩, BB.out, fun b hb _ _ => ⟨offB_none', offB_none'⟩⟩
theorem rComp_any (c : Co) (A1 D1 : Option Addr) (c1 e1 : Nat) (w : World) (h1 : CoR w w.heap.size c A1 D1) (h8 : -128 ≤ c.st) (h9 : c.st ≤ 127) :
    Calls Tryd.prog 44 #[(.agg #[.int .i8 c.st, .int .i64 c.pid, .int .i64 c.ep, .int .i64 c.tm, .int .i64 c.th, .slice A1 c.ps.length c1, .slice D1 c.qs.length e1, .int .i64 c.ag])] w (MvP c A1 D1 (compC c) (chkE c 3 true) w) := by
  cases hm : mayB c
  · exact rcomp_a c A1 D1 c1 e1 w h1 h8 h9 hm
  by_cases k3 : c.st = 3
  · exact rcomp_c c A1 D1 c1 e1 w h1 h8 h9 hm k3
  by_cases k4 : c.st = 4
  · by_cases kt : 0 < c.th
    · exact rcomp_e c A1 D1 c1 e1 w h1 h8 h9 hm k4 kt
    · exact rcomp_d c A1 D1 c1 e1 w h1 h8 h9 hm k4 kt
  · exact rcomp_b c A1 D1 c1 e1 w h1 h8 h9 hm k3 k4
set_option maxRecDepth 100000 in
theorem rplace_ret (x : Co) (A5 D5 : Option Addr) (c5 e5 : Nat) (n : Int) (tmps : Array Value) (b : Nat) (W : World) (h2 : tmps[4]?.getD undef = .pointer (some ⟨b, 0, none⟩)) (h3 : tmps[5]?.getD undef = .int .i64 n) (hK : Blk W b 26 #[.int .i8 x.st, .int .i64 x.pid, .int .i64 x.ep, .int .i64 x.tm, .int .i64 x.th, .slice A5 x.ps.length c5, .slice D5 x.qs.length e5, .int .i64 x.ag]) :
    (results Tryd.f46 tmps).run Tryd.prog W = .ok (.tuple #[(.agg #[.int .i8 x.st, .int .i64 x.pid, .int .i64 x.ep, .int .i64 x.tm, .int .i64 x.th, .slice A5 x.ps.length c5, .slice D5 x.qs.length e5, .int .i64 x.ag]), .int .i64 n]) W := by
  have LC := bk_load (P := Tryd.prog) 8 hK rfl
  clear hK
  simp [results, Tryd.results46, go_sem, h2, h3, LC]
set_option maxRecDepth 100000 in
set_option maxHeartbeats 2000000 in
theorem rplace_a (c : Co) (A1 D1 : Option Addr) (c1 e1 : Nat) (l : List Int) (AL : Option Addr) (ml : Nat) (w : World) (h1 : CoR w w.heap.size c A1 D1) (h8 : -128 ≤ c.st) (h9 : c.st ≤ 127) (hr : Reads w w.heap.size 1 AL l.length (cellsI .i64 l)) (hll : l.length ≤ 1000) (hmay : mayB c = false) :
    Calls Tryd.prog 46 #[(.agg #[.int .i8 c.st, .int .i64 c.pid, .int .i64 c.ep, .int .i64 c.tm, .int .i64 c.th, .slice A1 c.ps.length c1, .slice D1 c.qs.length e1, .int .i64 c.ag]), .slice AL l.length ml] w (MvP c A1 D1 (placeC c l) (placeE c l) w) := by
  have HR := Lib.hid hr
  have HE := Lib.hid (show placeE c l = 2 by unfold placeE; rw [if_pos (.inl hmay)])
  have HC := Lib.hid (show placeC c l = Co0 by unfold placeC; rw [if_pos (by rw [HE.out]; decide)])

  obtain ⟨W0, hW0⟩ : ∃ W0, W0 = (w.alloc (.cells #[.int .i8 c.st, .int .i64 c.pid, .int .i64 c.ep, .int .i64 c.tm, .int .i64 c.th, .slice A1 c.ps.length c1, .slice D1 c.qs.length e1, .int .i64 c.ag] 26)).alloc (.cells #[.int .i8 0, .int .i64 0, .int .i64 0, .int .i64 0, .int .i64 0, .slice none 0 0, .slice none 0 0, .int .i64 0] 26) := ⟨_, rfl⟩
  have s0 : W0.heap.size = w.heap.size + 1 + 1 := by rw [hW0]; simp
  have B0 : Below w.heap.size w W0 := by rw [hW0]; exact bal (bal (Below.refl _ _) _) _
  have K1 : Blk W0 w.heap.size 26 #[.int .i8 c.st, .int .i64 c.pid, .int .i64 c.ep, .int .i64 c.tm, .int .i64 c.th, .slice A1 c.ps.length c1, .slice D1 c.qs.length e1, .int .i64 c.ag] := by rw [hW0]; exact (Blk.new w 26 #[.int .i8 c.st, .int .i64 c.pid, .int .i64 c.ep, .int .i64 c.tm, .int .i64 c.th, .slice A1 c.ps.length c1, .slice D1 c.qs.length e1, .int .i64 c.ag]).alloc _
  have K3 : Blk W0 (w.heap.size + 1) 26 #[.int .i8 0, .int .i64 0, .int .i64 0, .int .i64 0, .int .i64 0, .slice none 0 0, .slice none 0 0, .int .i64 0] := by rw [hW0]; exact bk_new _ 26 #[.int .i8 0, .int .i64 0, .int .i64 0, .int .i64 0, .int .i64 0, .slice none 0 0, .slice none 0 0, .int .i64 0] (by simp)
  have HW := Lib.hid hW0
  have HS := Lib.hid s0
  have HB := Lib.hid B0
  have HK1 := Lib.hid K1
  have HK3 := Lib.hid K3
  have H1 := Lib.hid h1
  have MY := Lib.hid (rMay_any c A1 D1 c1 e1 w.heap.size W0 (h1.below B0) B0.size h8 h9)
  rw [hmay] at MY
  have L0 := bk_load (P := Tryd.prog) 8 K1 rfl
  clear hW0 s0 B0 K1 K3 h1 h8 h9 hmay hr hll
  go_enter Tryd.func46, Tryd.ntmps46
  go_upto_region 1 with (fail)
  rw [← HW.out]
  go_wp2_with fail
  refine MY.out.mono ?_
  rintro e w1 ⟨rfl, b1⟩
  have B1 := Lib.hid (show Below W0.heap.size W0 w1 from b1)
  have kx := HK1.out.below b1 (by have := HS.out; omega)
  have x0 := kx.cell 0
  have x1 := kx.cell 1
  have x2 := kx.cell 2
  have x3 := kx.cell 3
  have x4 := kx.cell 4
  have x5 := kx.cell 5
  have x6 := kx.cell 6
  have L1 := bk_load (P := Tryd.prog) 8 kx rfl
  clear L0 b1 kx
  obtain ⟨W9, st, kk, fb, fh, fs⟩ := bk_store (P := Tryd.prog) (ty := 26) (cs := #[.int .i8 0, .int .i64 0, .int .i64 0, .int .i64 0, .int .i64 0, .slice none 0 0, .slice none 0 0, .int .i64 0]) 8 (HK3.out.below B1.out (by have := HS.out; omega)) infoCo rfl rfl (by simp [Value.oneCell'])
  have BB := Lib.hid (fb w.heap.size w (by omega) (HB.out.trans (B1.out.mono HB.out.size)))
  have KK := Lib.hid kk
  clear kk fb fh fs
  go_wp2_with fail
  refine bodyPost_ret (v := .tuple #[.agg #[.int .i8 0, .int .i64 0, .int .i64 0, .int .i64 0, .int .i64 0, .slice none 0 0, .slice none 0 0, .int .i64 0], .int .i64 2]) (rplace_ret Co0 none none 0 0 _ _ (w.heap.size + 1) _ rfl rfl KK.out) rfl ?_
  rw [HE.out, HC.out]
  exact ⟨none, none, 0, 0, rfl, ⟨Reads.none_, Reads.none_, Nat.zero_le _, Nat.zero_le _⟩, BB.out, fun b hb _ _ => ⟨offB_none', offB_none'⟩⟩
set_option maxRecDepth 100000 in
set_option maxHeartbeats 2000000 in
theorem rplace_b (c : Co) (A1 D1 : Option Addr) (c1 e1 : Nat) (l : List Int) (AL : Option Addr) (ml : Nat) (w : World) (h1 : CoR w w.heap.size c A1 D1) (h8 : -128 ≤ c.st) (h9 : c.st ≤ 127) (hr : Reads w w.heap.size 1 AL l.length (cellsI .i64 l)) (hll : l.length ≤ 1000) (hmay : mayB c = true) (kp : partsB l = false) :
    Calls Tryd.prog 46 #[(.agg #[.int .i8 c.st, .int .i64 c.pid, .int .i64 c.ep, .int .i64 c.tm, .int .i64 c.th, .slice A1 c.ps.length c1, .slice D1 c.qs.length e1, .int .i64 c.ag]), .slice AL l.length ml] w (MvP c A1 D1 (placeC c l) (placeE c l) w) := by
  have HR := Lib.hid hr
  have HE := Lib.hid (show placeE c l = 2 by unfold placeE; rw [if_pos (.inr kp)])
  have HC := Lib.hid (show placeC c l = Co0 by unfold placeC; rw [if_pos (by rw [HE.out]; decide)])
  have RI := Lib.hid (fun W (hb : Below w.heap.size w W) => rise_any AL l ml w.heap.size W (Reads.below hr hb) (by omega))
  rw [riseB_parts, kp] at RI

  obtain ⟨W0, hW0⟩ : ∃ W0, W0 = (w.alloc (.cells #[.int .i8 c.st, .int .i64 c.pid, .int .i64 c.ep, .int .i64 c.tm, .int .i64 c.th, .slice A1 c.ps.length c1, .slice D1 c.qs.length e1, .int .i64 c.ag] 26)).alloc (.cells #[.int .i8 0, .int .i64 0, .int .i64 0, .int .i64 0, .int .i64 0, .slice none 0 0, .slice none 0 0, .int .i64 0] 26) := ⟨_, rfl⟩
  have s0 : W0.heap.size = w.heap.size + 1 + 1 := by rw [hW0]; simp
  have B0 : Below w.heap.size w W0 := by rw [hW0]; exact bal (bal (Below.refl _ _) _) _
  have K1 : Blk W0 w.heap.size 26 #[.int .i8 c.st, .int .i64 c.pid, .int .i64 c.ep, .int .i64 c.tm, .int .i64 c.th, .slice A1 c.ps.length c1, .slice D1 c.qs.length e1, .int .i64 c.ag] := by rw [hW0]; exact (Blk.new w 26 #[.int .i8 c.st, .int .i64 c.pid, .int .i64 c.ep, .int .i64 c.tm, .int .i64 c.th, .slice A1 c.ps.length c1, .slice D1 c.qs.length e1, .int .i64 c.ag]).alloc _
  have K3 : Blk W0 (w.heap.size + 1) 26 #[.int .i8 0, .int .i64 0, .int .i64 0, .int .i64 0, .int .i64 0, .slice none 0 0, .slice none 0 0, .int .i64 0] := by rw [hW0]; exact bk_new _ 26 #[.int .i8 0, .int .i64 0, .int .i64 0, .int .i64 0, .int .i64 0, .slice none 0 0, .slice none 0 0, .int .i64 0] (by simp)
  have HW := Lib.hid hW0
  have HS := Lib.hid s0
  have HB := Lib.hid B0
  have HK1 := Lib.hid K1
  have HK3 := Lib.hid K3
  have H1 := Lib.hid h1
  have MY := Lib.hid (rMay_any c A1 D1 c1 e1 w.heap.size W0 (h1.below B0) B0.size h8 h9)
  rw [hmay] at MY
  have L0 := bk_load (P := Tryd.prog) 8 K1 rfl
  clear hW0 s0 B0 K1 K3 h1 h8 h9 hmay hr hll kp
  go_enter Tryd.func46, Tryd.ntmps46
  go_upto_region 1 with (fail)
  rw [← HW.out]
  go_wp2_with fail
  refine MY.out.mono ?_
  rintro e w1 ⟨rfl, b1⟩
  have B1 := Lib.hid (show Below W0.heap.size W0 w1 from b1)
  have kx := HK1.out.below b1 (by have := HS.out; omega)
  have x0 := kx.cell 0
  have x1 := kx.cell 1
  have x2 := kx.cell 2
  have x3 := kx.cell 3
  have x4 := kx.cell 4
  have x5 := kx.cell 5
  have x6 := kx.cell 6
  have L1 := bk_load (P := Tryd.prog) 8 kx rfl
  clear L0 b1 kx
  go_wp2_with fail
  refine (RI.out _ (HB.out.trans (B1.out.mono HB.out.size))).mono ?_
  rintro e w9 ⟨rfl, rfl⟩

  obtain ⟨W9, st, kk, fb, fh, fs⟩ := bk_store (P := Tryd.prog) (ty := 26) (cs := #[.int .i8 0, .int .i64 0, .int .i64 0, .int .i64 0, .int .i64 0, .slice none 0 0, .slice none 0 0, .int .i64 0]) 8 (HK3.out.below B1.out (by have := HS.out; omega)) infoCo rfl rfl (by simp [Value.oneCell'])
  have BB := Lib.hid (fb w.heap.size w (by omega) (HB.out.trans (B1.out.mono HB.out.size)))
  have KK := Lib.hid kk
  clear kk fb fh fs
  go_wp2_with fail
  refine bodyPost_ret (v := .tuple #[.agg #[.int .i8 0, .int .i64 0, .int .i64 0, .int .i64 0, .int .i64 0, .slice none 0 0, .slice none 0 0, .int .i64 0], .int .i64 2]) (rplace_ret Co0 none none 0 0 _ _ (w.heap.size + 1) _ rfl rfl KK.out) rfl ?_
  rw [HE.out, HC.out]
  exact ⟨none, none, 0, 0, rfl, ⟨Reads.none_, Reads.none_, Nat.zero_le _, Nat.zero_le _⟩, BB.out, fun b hb _ _ => ⟨offB_none', offB_none'⟩⟩
set_option maxRecDepth 100000 in
set_option maxHeartbeats 2000000 in
theorem rplace_c (c : Co) (A1 D1 : Option Addr) (c1 e1 : Nat) (l : List Int) (AL : Option Addr) (ml : Nat) (w : World) (h1 : CoR w w.heap.size c A1 D1) (h8 : -128 ≤ c.st) (h9 : c.st ≤ 127) (hr : Reads w w.heap.size 1 AL l.length (cellsI .i64 l)) (hll : l.length ≤ 1000) (hmay : mayB c = true) (kp : partsB l = true) (k0 : c.st = 0) (kl : 0 < l.length) :
    Calls Tryd.prog 46 #[(.agg #[.int .i8 c.st, .int .i64 c.pid, .int .i64 c.ep, .int .i64 c.tm, .int .i64 c.th, .slice A1 c.ps.length c1, .slice D1 c.qs.length e1, .int .i64 c.ag]), .slice AL l.length ml] w (MvP c A1 D1 (placeC c l) (placeE c l) w) := by
  have HR := Lib.hid hr
  have HE := Lib.hid (show placeE c l = 180 by unfold placeE; rw [if_neg (by rw [hmay, kp]; simp)]; rw [if_pos ⟨k0, kl⟩])
  have HC := Lib.hid (show placeC c l = Co0 by unfold placeC; rw [if_pos (by rw [HE.out]; decide)])
  have RI := Lib.hid (fun W (hb : Below w.heap.size w W) => rise_any AL l ml w.heap.size W (Reads.below hr hb) (by omega))
  rw [riseB_parts, kp] at RI
  have z0 : (c.st == 0) = true := by rw [k0]; rfl
  have zl : decide ((0 : Int) < (l.length : Int)) = true := decide_eq_true (by omega)
  have zl' : decide (0 < l.length) = true := decide_eq_true (by omega)
  obtain ⟨W0, hW0⟩ : ∃ W0, W0 = (w.alloc (.cells #[.int .i8 c.st, .int .i64 c.pid, .int .i64 c.ep, .int .i64 c.tm, .int .i64 c.th, .slice A1 c.ps.length c1, .slice D1 c.qs.length e1, .int .i64 c.ag] 26)).alloc (.cells #[.int .i8 0, .int .i64 0, .int .i64 0, .int .i64 0, .int .i64 0, .slice none 0 0, .slice none 0 0, .int .i64 0] 26) := ⟨_, rfl⟩
  have s0 : W0.heap.size = w.heap.size + 1 + 1 := by rw [hW0]; simp
  have B0 : Below w.heap.size w W0 := by rw [hW0]; exact bal (bal (Below.refl _ _) _) _
  have K1 : Blk W0 w.heap.size 26 #[.int .i8 c.st, .int .i64 c.pid, .int .i64 c.ep, .int .i64 c.tm, .int .i64 c.th, .slice A1 c.ps.length c1, .slice D1 c.qs.length e1, .int .i64 c.ag] := by rw [hW0]; exact (Blk.new w 26 #[.int .i8 c.st, .int .i64 c.pid, .int .i64 c.ep, .int .i64 c.tm, .int .i64 c.th, .slice A1 c.ps.length c1, .slice D1 c.qs.length e1, .int .i64 c.ag]).alloc _
  have K3 : Blk W0 (w.heap.size + 1) 26 #[.int .i8 0, .int .i64 0, .int .i64 0, .int .i64 0, .int .i64 0, .slice none 0 0, .slice none 0 0, .int .i64 0] := by rw [hW0]; exact bk_new _ 26 #[.int .i8 0, .int .i64 0, .int .i64 0, .int .i64 0, .int .i64 0, .slice none 0 0, .slice none 0 0, .int .i64 0] (by simp)
  have HW := Lib.hid hW0
  have HS := Lib.hid s0
  have HB := Lib.hid B0
  have HK1 := Lib.hid K1
  have HK3 := Lib.hid K3
  have H1 := Lib.hid h1
  have MY := Lib.hid (rMay_any c A1 D1 c1 e1 w.heap.size W0 (h1.below B0) B0.size h8 h9)
  rw [hmay] at MY
  have L0 := bk_load (P := Tryd.prog) 8 K1 rfl
  clear hW0 s0 B0 K1 K3 h1 h8 h9 hmay hr hll kp k0 kl
  go_enter Tryd.func46, Tryd.ntmps46
  go_upto_region 1 with (fail)
  rw [← HW.out]
  go_wp2_with fail
  refine MY.out.mono ?_
  rintro e w1 ⟨rfl, b1⟩
  have B1 := Lib.hid (show Below W0.heap.size W0 w1 from b1)
  have kx := HK1.out.below b1 (by have := HS.out; omega)
  have x0 := kx.cell 0
  have x1 := kx.cell 1
  have x2 := kx.cell 2
  have x3 := kx.cell 3
  have x4 := kx.cell 4
  have x5 := kx.cell 5
  have x6 := kx.cell 6
  have L1 := bk_load (P := Tryd.prog) 8 kx rfl
  clear L0 b1 kx
  go_wp2_with fail
  refine (RI.out _ (HB.out.trans (B1.out.mono HB.out.size))).mono ?_
  rintro e w9 ⟨rfl, rfl⟩

  obtain ⟨W9, st, kk, fb, fh, fs⟩ := bk_store (P := Tryd.prog) (ty := 26) (cs := #[.int .i8 0, .int .i64 0, .int .i64 0, .int .i64 0, .int .i64 0, .slice none 0 0, .slice none 0 0, .int .i64 0]) 8 (HK3.out.below B1.out (by have := HS.out; omega)) infoCo rfl rfl (by simp [Value.oneCell'])
  have BB := Lib.hid (fb w.heap.size w (by omega) (HB.out.trans (B1.out.mono HB.out.size)))
  have KK := Lib.hid kk
  clear kk fb fh fs
  go_wp2_with fail
  refine bodyPost_ret (v := .tuple #[.agg #[.int .i8 0, .int .i64 0, .int .i64 0, .int .i64 0, .int .i64 0, .slice none 0 0, .slice none 0 0, .int .i64 0], .int .i64 180]) (rplace_ret Co0 none none 0 0 _ _ (w.heap.size + 1) _ rfl rfl KK.out) rfl ?_
  rw [HE.out, HC.out]
  exact ⟨none, none, 0, 0, rfl, ⟨Reads.none_, Reads.none_, Nat.zero_le _, Nat.zero_le _⟩, BB.out, fun b hb _ _ => ⟨offB_none', offB_none'⟩⟩
set_option maxRecDepth 100000 in
set_option maxHeartbeats 2000000 in
theorem rplace_d (c : Co) (A1 D1 : Option Addr) (c1 e1 : Nat) (l : List Int) (AL : Option Addr) (ml : Nat) (w : World) (h1 : CoR w w.heap.size c A1 D1) (h8 : -128 ≤ c.st) (h9 : c.st ≤ 127) (hr : Reads w w.heap.size 1 AL l.length (cellsI .i64 l)) (hll : l.length ≤ 1000) (hmay : mayB c = true) (kp : partsB l = true) (k0 : c.st = 0) (kl : l.length = 0) :
    Calls Tryd.prog 46 #[(.agg #[.int .i8 c.st, .int .i64 c.pid, .int .i64 c.ep, .int .i64 c.tm, .int .i64 c.th, .slice A1 c.ps.length c1, .slice D1 c.qs.length e1, .int .i64 c.ag]), .slice AL l.length ml] w (MvP c A1 D1 (placeC c l) (placeE c l) w) := by
  have HR := Lib.hid hr
  have HE := Lib.hid (show placeE c l = 0 by unfold placeE; rw [if_neg (by rw [hmay, kp]; simp)]; rw [if_neg (by omega)])
  have HC := Lib.hid (show placeC c l = c by unfold placeC; rw [if_neg (by rw [HE.out]; decide), if_neg (by omega), if_neg (by omega), if_neg (by omega)]; rw [may_none hmay k0, List.eq_nil_of_length_eq_zero kl]; rfl)
  have RI := Lib.hid (fun W (hb : Below w.heap.size w W) => rise_any AL l ml w.heap.size W (Reads.below hr hb) (by omega))
  rw [riseB_parts, kp] at RI
  have z0 : (c.st == 0) = true := by rw [k0]; rfl
  have zl : decide ((0 : Int) < (l.length : Int)) = false := decide_eq_false (by omega)
  have zl' : decide (0 < l.length) = false := decide_eq_false (by omega)
  obtain ⟨W0, hW0⟩ : ∃ W0, W0 = (w.alloc (.cells #[.int .i8 c.st, .int .i64 c.pid, .int .i64 c.ep, .int .i64 c.tm, .int .i64 c.th, .slice A1 c.ps.length c1, .slice D1 c.qs.length e1, .int .i64 c.ag] 26)).alloc (.cells #[.int .i8 0, .int .i64 0, .int .i64 0, .int .i64 0, .int .i64 0, .slice none 0 0, .slice none 0 0, .int .i64 0] 26) := ⟨_, rfl⟩
  have s0 : W0.heap.size = w.heap.size + 1 + 1 := by rw [hW0]; simp
  have B0 : Below w.heap.size w W0 := by rw [hW0]; exact bal (bal (Below.refl _ _) _) _
  have K1 : Blk W0 w.heap.size 26 #[.int .i8 c.st, .int .i64 c.pid, .int .i64 c.ep, .int .i64 c.tm, .int .i64 c.th, .slice A1 c.ps.length c1, .slice D1 c.qs.length e1, .int .i64 c.ag] := by rw [hW0]; exact (Blk.new w 26 #[.int .i8 c.st, .int .i64 c.pid, .int .i64 c.ep, .int .i64 c.tm, .int .i64 c.th, .slice A1 c.ps.length c1, .slice D1 c.qs.length e1, .int .i64 c.ag]).alloc _
  have K3 : Blk W0 (w.heap.size + 1) 26 #[.int .i8 0, .int .i64 0, .int .i64 0, .int .i64 0, .int .i64 0, .slice none 0 0, .slice none 0 0, .int .i64 0] := by rw [hW0]; exact bk_new _ 26 #[.int .i8 0, .int .i64 0, .int .i64 0, .int .i64 0, .int .i64 0, .slice none 0 0, .slice none 0 0, .int .i64 0] (by simp)
  have HW := Lib.hid hW0
  have HS := Lib.hid s0
  have HB := Lib.hid B0
  have HK1 := Lib.hid K1
  have HK3 := Lib.hid K3
  have H1 := Lib.hid h1
  have MY := Lib.hid (rMay_any c A1 D1 c1 e1 w.heap.size W0 (h1.below B0) B0.size h8 h9)
  rw [hmay] at MY
  have L0 := bk_load (P := Tryd.prog) 8 K1 rfl
  clear hW0 s0 B0 K1 K3 h1 h8 h9 hmay hr hll kp k0 kl
  go_enter Tryd.func46, Tryd.ntmps46
  go_upto_region 1 with (fail)
  rw [← HW.out]
  go_wp2_with fail
  refine MY.out.mono ?_
  rintro e w1 ⟨rfl, b1⟩
  have B1 := Lib.hid (show Below W0.heap.size W0 w1 from b1)
  have kx := HK1.out.below b1 (by have := HS.out; omega)
  have x0 := kx.cell 0
  have x1 := kx.cell 1
  have x2 := kx.cell 2
  have x3 := kx.cell 3
  have x4 := kx.cell 4
  have x5 := kx.cell 5
  have x6 := kx.cell 6
  have L1 := bk_load (P := Tryd.prog) 8 kx rfl
  clear L0 b1 kx
  go_wp2_with fail
  refine (RI.out _ (HB.out.trans (B1.out.mono HB.out.size))).mono ?_
  rintro e w9 ⟨rfl, rfl⟩

  obtain ⟨W9, st9, kk, fb, fh, fs⟩ := bk_store (P := Tryd.prog) (ty := 26) (cs := #[.int .i8 c.st, .int .i64 c.pid, .int .i64 c.ep, .int .i64 c.tm, .int .i64 c.th, .slice A1 c.ps.length c1, .slice D1 c.qs.length e1, .int .i64 c.ag]) 8 (HK3.out.below B1.out (by have := HS.out; omega)) infoCo rfl rfl (by simp [Value.oneCell'])
  have BB := Lib.hid (fb w.heap.size w (by omega) (HB.out.trans (B1.out.mono HB.out.size)))
  have KK := Lib.hid kk
  clear kk fb fh fs
  go_wp2_with fail
  refine bodyPost_ret (v := .tuple #[.agg #[.int .i8 c.st, .int .i64 c.pid, .int .i64 c.ep, .int .i64 c.tm, .int .i64 c.th, .slice A1 c.ps.length c1, .slice D1 c.qs.length e1, .int .i64 c.ag], .int .i64 0]) (rplace_ret c A1 D1 c1 e1 0 _ (w.heap.size + 1) _ rfl rfl KK.out) rfl ?_
  rw [HE.out, HC.out]
  exact ⟨A1, D1, c1, e1, rfl, H1.out.up BB.out, BB.out, fun b hb o1 o2 => ⟨o1, o2⟩⟩
set_option maxRecDepth 100000 in
set_option maxHeartbeats 2000000 in
theorem rplace_f (c : Co) (A1 D1 : Option Addr) (c1 e1 : Nat) (l : List Int) (AL : Option Addr) (ml : Nat) (w : World) (h1 : CoR w w.heap.size c A1 D1) (h8 : -128 ≤ c.st) (h9 : c.st ≤ 127) (hr : Reads w w.heap.size 1 AL l.length (cellsI .i64 l)) (hll : l.length ≤ 1000) (hmay : mayB c = true) (kp : partsB l = true) (k2 : c.st = 2) (kl : l.length = 0) (kq : c.qs.length = 0) :
    Calls Tryd.prog 46 #[(.agg #[.int .i8 c.st, .int .i64 c.pid, .int .i64 c.ep, .int .i64 c.tm, .int .i64 c.th, .slice A1 c.ps.length c1, .slice D1 c.qs.length e1, .int .i64 c.ag]), .slice AL l.length ml] w (MvP c A1 D1 (placeC c l) (placeE c l) w) := by
  have HR := Lib.hid hr
  have HE := Lib.hid (show placeE c l = 0 by unfold placeE; rw [if_neg (by rw [hmay, kp]; simp)]; rw [if_neg (by omega)])
  have HC := Lib.hid (show placeC c l = ⟨1, c.pid, c.ep, c.tm, 0, [], [], 0⟩ by unfold placeC; rw [if_neg (by rw [HE.out]; decide), if_neg (by omega), if_pos k2, if_pos ⟨kl, kq⟩, (may_going hmay k2).2.1, List.eq_nil_of_length_eq_zero kl, List.eq_nil_of_length_eq_zero kq])
  have RI := Lib.hid (fun W (hb : Below w.heap.size w W) => rise_any AL l ml w.heap.size W (Reads.below hr hb) (by omega))
  rw [riseB_parts, kp] at RI
  have z0 : (c.st == 0) = false := by rw [k2]; rfl
  have z3 : (c.st == 3) = false := by rw [k2]; rfl
  have z4 : (c.st == 4) = false := by rw [k2]; rfl
  have z2 : (c.st == 2) = true := by rw [k2]; rfl
  have zl : ((l.length : Int) == 0) = true := by rw [kl]; rfl
  have zq : ((c.qs.length : Int) == 0) = true := by rw [kq]; rfl
  obtain ⟨W0, hW0⟩ : ∃ W0, W0 = (w.alloc (.cells #[.int .i8 c.st, .int .i64 c.pid, .int .i64 c.ep, .int .i64 c.tm, .int .i64 c.th, .slice A1 c.ps.length c1, .slice D1 c.qs.length e1, .int .i64 c.ag] 26)).alloc (.cells #[.int .i8 0, .int .i64 0, .int .i64 0, .int .i64 0, .int .i64 0, .slice none 0 0, .slice none 0 0, .int .i64 0] 26) := ⟨_, rfl⟩
  have s0 : W0.heap.size = w.heap.size + 1 + 1 := by rw [hW0]; simp
  have B0 : Below w.heap.size w W0 := by rw [hW0]; exact bal (bal (Below.refl _ _) _) _
  have K1 : Blk W0 w.heap.size 26 #[.int .i8 c.st, .int .i64 c.pid, .int .i64 c.ep, .int .i64 c.tm, .int .i64 c.th, .slice A1 c.ps.length c1, .slice D1 c.qs.length e1, .int .i64 c.ag] := by rw [hW0]; exact (Blk.new w 26 #[.int .i8 c.st, .int .i64 c.pid, .int .i64 c.ep, .int .i64 c.tm, .int .i64 c.th, .slice A1 c.ps.length c1, .slice D1 c.qs.length e1, .int .i64 c.ag]).alloc _
  have K3 : Blk W0 (w.heap.size + 1) 26 #[.int .i8 0, .int .i64 0, .int .i64 0, .int .i64 0, .int .i64 0, .slice none 0 0, .slice none 0 0, .int .i64 0] := by rw [hW0]; exact bk_new _ 26 #[.int .i8 0, .int .i64 0, .int .i64 0, .int .i64 0, .int .i64 0, .slice none 0 0, .slice none 0 0, .int .i64 0] (by simp)
  have HW := Lib.hid hW0
  have HS := Lib.hid s0
  have HB := Lib.hid B0
  have HK1 := Lib.hid K1
  have HK3 := Lib.hid K3
  have H1 := Lib.hid h1
  have MY := Lib.hid (rMay_any c A1 D1 c1 e1 w.heap.size W0 (h1.below B0) B0.size h8 h9)
  rw [hmay] at MY
  have L0 := bk_load (P := Tryd.prog) 8 K1 rfl
  clear hW0 s0 B0 K1 K3 h1 h8 h9 hmay hr hll kp k2 kl kq
  go_enter Tryd.func46, Tryd.ntmps46
  go_upto_region 1 with (fail)
  rw [← HW.out]
  go_wp2_with fail
  refine MY.out.mono ?_
  rintro e w1 ⟨rfl, b1⟩
  have B1 := Lib.hid (show Below W0.heap.size W0 w1 from b1)
  have kx := HK1.out.below b1 (by have := HS.out; omega)
  have x0 := kx.cell 0
  have x1 := kx.cell 1
  have x2 := kx.cell 2
  have x3 := kx.cell 3
  have x4 := kx.cell 4
  have x5 := kx.cell 5
  have x6 := kx.cell 6
  have L1 := bk_load (P := Tryd.prog) 8 kx rfl
  clear L0 b1 kx
  go_wp2_with fail
  refine (RI.out _ (HB.out.trans (B1.out.mono HB.out.size))).mono ?_
  rintro e w9 ⟨rfl, rfl⟩

  obtain ⟨W9, st, kk, fb, fh, fs⟩ := bk_store (P := Tryd.prog) (ty := 26) (cs := #[.int .i8 1, .int .i64 c.pid, .int .i64 c.ep, .int .i64 c.tm, .int .i64 0, .slice none 0 0, .slice none 0 0, .int .i64 0]) 8 (HK3.out.below B1.out (by have := HS.out; omega)) infoCo rfl rfl (by simp [Value.oneCell'])
  have BB := Lib.hid (fb w.heap.size w (by omega) (HB.out.trans (B1.out.mono HB.out.size)))
  have KK := Lib.hid kk
  clear kk fb fh fs
  go_wp2_with fail
  refine bodyPost_ret (v := .tuple #[.agg #[.int .i8 1, .int .i64 c.pid, .int .i64 c.ep, .int .i64 c.tm, .int .i64 0, .slice none 0 0, .slice none 0 0, .int .i64 0], .int .i64 0]) (rplace_ret ⟨1, c.pid, c.ep, c.tm, 0, [], [], 0⟩ none none 0 0 _ _ (w.heap.size + 1) _ rfl rfl KK.out) rfl ?_
  rw [HE.out, HC.out]
  exact ⟨none, none, 0, 0, rfl, ⟨Reads.none_, Reads.none_, Nat.zero_le _, Nat.zero_le _⟩, BB.out, fun b hb _ _ => ⟨offB_none', offB_none'⟩⟩
set_option maxRecDepth 100000 in
set_option maxHeartbeats 2000000 in
theorem rplace_g (c : Co) (A1 D1 : Option Addr) (c1 e1 : Nat) (l : List Int) (AL : Option Addr) (ml : Nat) (w : World) (h1 : CoR w w.heap.size c A1 D1) (h8 : -128 ≤ c.st) (h9 : c.st ≤ 127) (hr : Reads w w.heap.size 1 AL l.length (cellsI .i64 l)) (hll : l.length ≤ 1000) (hmay : mayB c = true) (kp : partsB l = true) (kst : c.st = 2) (kl : l.length = 0) (kq : ¬ c.qs.length = 0) :
    Calls Tryd.prog 46 #[(.agg #[.int .i8 c.st, .int .i64 c.pid, .int .i64 c.ep, .int .i64 c.tm, .int .i64 c.th, .slice A1 c.ps.length c1, .slice D1 c.qs.length e1, .int .i64 c.ag]), .slice AL l.length ml] w (MvP c A1 D1 (placeC c l) (placeE c l) w) := by
  have HR := Lib.hid hr
  have HE := Lib.hid (show placeE c l = 0 by unfold placeE; rw [if_neg (by rw [hmay, kp]; simp)]; rw [if_neg (by omega)])
  have HC := Lib.hid (show placeC c l = { c with ps := [] } by unfold placeC; rw [if_neg (by rw [HE.out]; decide), if_neg (by omega), if_pos kst, if_neg (by omega), List.eq_nil_of_length_eq_zero kl])
  have RI := Lib.hid (fun W (hb : Below w.heap.size w W) => rise_any AL l ml w.heap.size W (Reads.below hr hb) (by omega))
  rw [riseB_parts, kp] at RI
  have z0 : (c.st == 0) = false := by rw [kst]; rfl
  have z3 : (c.st == 3) = false := by rw [kst]; rfl
  have z4 : (c.st == 4) = false := by rw [kst]; rfl
  have z2 : (c.st == 2) = true := by rw [kst]; rfl
  have zl : ((l.length : Int) == 0) = true := by rw [kl]; rfl
  have zq : ((c.qs.length : Int) == 0) = false := beq_eq_false_iff_ne.2 (by omega)
  have zn : decide ((0 : Int) < (l.length : Int)) = false := decide_eq_false (by omega)
  have zn' : decide (0 < l.length) = false := decide_eq_false (by omega)
  obtain ⟨W0, hW0⟩ : ∃ W0, W0 = (w.alloc (.cells #[.int .i8 c.st, .int .i64 c.pid, .int .i64 c.ep, .int .i64 c.tm, .int .i64 c.th, .slice A1 c.ps.length c1, .slice D1 c.qs.length e1, .int .i64 c.ag] 26)).alloc (.cells #[.int .i8 0, .int .i64 0, .int .i64 0, .int .i64 0, .int .i64 0, .slice none 0 0, .slice none 0 0, .int .i64 0] 26) := ⟨_, rfl⟩
  have s0 : W0.heap.size = w.heap.size + 1 + 1 := by rw [hW0]; simp
  have B0 : Below w.heap.size w W0 := by rw [hW0]; exact bal (bal (Below.refl _ _) _) _
  have K1 : Blk W0 w.heap.size 26 #[.int .i8 c.st, .int .i64 c.pid, .int .i64 c.ep, .int .i64 c.tm, .int .i64 c.th, .slice A1 c.ps.length c1, .slice D1 c.qs.length e1, .int .i64 c.ag] := by rw [hW0]; exact (Blk.new w 26 #[.int .i8 c.st, .int .i64 c.pid, .int .i64 c.ep, .int .i64 c.tm, .int .i64 c.th, .slice A1 c.ps.length c1, .slice D1 c.qs.length e1, .int .i64 c.ag]).alloc _
  have K3 : Blk W0 (w.heap.size + 1) 26 #[.int .i8 0, .int .i64 0, .int .i64 0, .int .i64 0, .int .i64 0, .slice none 0 0, .slice none 0 0, .int .i64 0] := by rw [hW0]; exact bk_new _ 26 #[.int .i8 0, .int .i64 0, .int .i64 0, .int .i64 0, .int .i64 0, .slice none 0 0, .slice none 0 0, .int .i64 0] (by simp)
  have HW := Lib.hid hW0
  have HS := Lib.hid s0
  have HB := Lib.hid B0
  have HK1 := Lib.hid K1
  have HK3 := Lib.hid K3
  have H1 := Lib.hid h1
  have MY := Lib.hid (rMay_any c A1 D1 c1 e1 w.heap.size W0 (h1.below B0) B0.size h8 h9)
  rw [hmay] at MY
  have L0 := bk_load (P := Tryd.prog) 8 K1 rfl
  clear hW0 s0 B0 K1 K3 h1 h8 h9 hmay hr hll kp kst kl kq
  go_enter Tryd.func46, Tryd.ntmps46
  go_upto_region 1 with (fail)
  rw [← HW.out]
  go_wp2_with fail
  refine MY.out.mono ?_
  rintro e w1 ⟨rfl, b1⟩
  have B1 := Lib.hid (show Below W0.heap.size W0 w1 from b1)
  have kx := HK1.out.below b1 (by have := HS.out; omega)
  have x0 := kx.cell 0
  have x1 := kx.cell 1
  have x2 := kx.cell 2
  have x3 := kx.cell 3
  have x4 := kx.cell 4
  have x5 := kx.cell 5
  have x6 := kx.cell 6
  have L1 := bk_load (P := Tryd.prog) 8 kx rfl
  clear L0 b1 kx
  go_wp2_with fail
  refine (RI.out _ (HB.out.trans (B1.out.mono HB.out.size))).mono ?_
  rintro e w9 ⟨rfl, rfl⟩

  have kx := HK1.out.below B1.out (by have := HS.out; omega)
  have st5 := store_slI none 0 0 (kx.cell 5) (kx.frozen 5)
  have k5 : Blk (w1.setCell ⟨w.heap.size, 5, none⟩ (.slice none 0 0)) w.heap.size 26 #[.int .i8 c.st, .int .i64 c.pid, .int .i64 c.ep, .int .i64 c.tm, .int .i64 c.th, .slice none 0 0, .slice D1 c.qs.length e1, .int .i64 c.ag] := kx.set_ 5 (.slice none 0 0)
  have k35 := (HK3.out.below B1.out (by have := HS.out; omega)).far (p := ⟨w.heap.size, 5, none⟩) (by simp) (.slice none 0 0)
  have b5 := (HB.out.trans (B1.out.mono HB.out.size)).setCell (p := ⟨w.heap.size, 5, none⟩) (Nat.le_refl _) (.slice none 0 0)
  have L5 := bk_load (P := Tryd.prog) 8 k5 rfl
  have K35 := Lib.hid k35
  have B5 := Lib.hid b5
  clear kx k5 k35 b5
  go_upto_region 17 with (fail)
  clear st5 x0 x1 x2 x3 x4 x5 x6 L1
  generalize w1.setCell ⟨w.heap.size, 5, none⟩ (.slice none 0 0) = W8 at *
  obtain ⟨W9, st9, kk, fb, fh, fs⟩ := bk_store (P := Tryd.prog) (ty := 26) (cs := #[.int .i8 c.st, .int .i64 c.pid, .int .i64 c.ep, .int .i64 c.tm, .int .i64 c.th, .slice none 0 0, .slice D1 c.qs.length e1, .int .i64 c.ag]) 8 K35.out infoCo rfl rfl (by simp [Value.oneCell'])
  have BB := Lib.hid (fb w.heap.size w (by omega) B5.out)
  have KK := Lib.hid kk
  clear kk fb fh fs
  go_wp2_with fail
  refine bodyPost_ret (v := .tuple #[.agg #[.int .i8 c.st, .int .i64 c.pid, .int .i64 c.ep, .int .i64 c.tm, .int .i64 c.th, .slice none 0 0, .slice D1 c.qs.length e1, .int .i64 c.ag], .int .i64 0]) (rplace_ret { c with ps := [] } none D1 0 e1 0 _ (w.heap.size + 1) _ rfl rfl KK.out) rfl ?_
  rw [HE.out, HC.out]
  have rr := H1.out.up BB.out
  exact ⟨none, D1, 0, e1, rfl, ⟨Reads.none_, rr.2.1, Nat.zero_le _, rr.2.2.2⟩, BB.out, fun b hb o1 o2 => ⟨offB_none', o2⟩⟩
set_option maxRecDepth 100000 in
set_option maxHeartbeats 2000000 in
theorem rplace_i (c : Co) (A1 D1 : Option Addr) (c1 e1 : Nat) (l : List Int) (AL : Option Addr) (ml : Nat) (w : World) (h1 : CoR w w.heap.size c A1 D1) (h8 : -128 ≤ c.st) (h9 : c.st ≤ 127) (hr : Reads w w.heap.size 1 AL l.length (cellsI .i64 l)) (hll : l.length ≤ 1000) (hmay : mayB c = true) (kp : partsB l = true) (ki : c.st = 1 ∨ c.st = 5 ∨ c.st = 6) (kl : l.length = 0) :
    Calls Tryd.prog 46 #[(.agg #[.int .i8 c.st, .int .i64 c.pid, .int .i64 c.ep, .int .i64 c.tm, .int .i64 c.th, .slice A1 c.ps.length c1, .slice D1 c.qs.length e1, .int .i64 c.ag]), .slice AL l.length ml] w (MvP c A1 D1 (placeC c l) (placeE c l) w) := by
  have HR := Lib.hid hr
  have HE := Lib.hid (show placeE c l = 0 by unfold placeE; rw [if_neg (by rw [hmay, kp]; simp)]; rw [if_neg (by omega)])
  have HC := Lib.hid (show placeC c l = { c with ps := [] } by unfold placeC; rw [if_neg (by rw [HE.out]; decide), if_neg (by omega), if_neg (by omega), if_neg (by omega), List.eq_nil_of_length_eq_zero kl])
  have RI := Lib.hid (fun W (hb : Below w.heap.size w W) => rise_any AL l ml w.heap.size W (Reads.below hr hb) (by omega))
  rw [riseB_parts, kp] at RI
  have z0 : (c.st == 0) = false := by simp; omega
  have z3 : (c.st == 3) = false := by simp; omega
  have z4 : (c.st == 4) = false := by simp; omega
  have z2 : (c.st == 2) = false := by simp; omega
  have zn : decide ((0 : Int) < (l.length : Int)) = false := decide_eq_false (by omega)
  have zn' : decide (0 < l.length) = false := decide_eq_false (by omega)
  obtain ⟨W0, hW0⟩ : ∃ W0, W0 = (w.alloc (.cells #[.int .i8 c.st, .int .i64 c.pid, .int .i64 c.ep, .int .i64 c.tm, .int .i64 c.th, .slice A1 c.ps.length c1, .slice D1 c.qs.length e1, .int .i64 c.ag] 26)).alloc (.cells #[.int .i8 0, .int .i64 0, .int .i64 0, .int .i64 0, .int .i64 0, .slice none 0 0, .slice none 0 0, .int .i64 0] 26) := ⟨_, rfl⟩
  have s0 : W0.heap.size = w.heap.size + 1 + 1 := by rw [hW0]; simp
  have B0 : Below w.heap.size w W0 := by rw [hW0]; exact bal (bal (Below.refl _ _) _) _
  have K1 : Blk W0 w.heap.size 26 #[.int .i8 c.st, .int .i64 c.pid, .int .i64 c.ep, .int .i64 c.tm, .int .i64 c.th, .slice A1 c.ps.length c1, .slice D1 c.qs.length e1, .int .i64 c.ag] := by rw [hW0]; exact (Blk.new w 26 #[.int .i8 c.st, .int .i64 c.pid, .int .i64 c.ep, .int .i64 c.tm, .int .i64 c.th, .slice A1 c.ps.length c1, .slice D1 c.qs.length e1, .int .i64 c.ag]).alloc _
  have K3 : Blk W0 (w.heap.size + 1) 26 #[.int .i8 0, .int .i64 0, .int .i64 0, .int .i64 0, .int .i64 0, .slice none 0 0, .slice none 0 0, .int .i64 0] := by rw [hW0]; exact bk_new _ 26 #[.int .i8 0, .int .i64 0, .int .i64 0, .int .i64 0, .int .i64 0, .slice none 0 0, .slice none 0 0, .int .i64 0] (by simp)
  have HW := Lib.hid hW0
  have HS := Lib.hid s0
  have HB := Lib.hid B0
  have HK1 := Lib.hid K1
  have HK3 := Lib.hid K3
  have H1 := Lib.hid h1
  have MY := Lib.hid (rMay_any c A1 D1 c1 e1 w.heap.size W0 (h1.below B0) B0.size h8 h9)
  rw [hmay] at MY
  have L0 := bk_load (P := Tryd.prog) 8 K1 rfl
  clear hW0 s0 B0 K1 K3 h1 h8 h9 hmay hr hll kp ki kl
  go_enter Tryd.func46, Tryd.ntmps46
  go_upto_region 1 with (fail)
  rw [← HW.out]
  go_wp2_with fail
  refine MY.out.mono ?_
  rintro e w1 ⟨rfl, b1⟩
  have B1 := Lib.hid (show Below W0.heap.size W0 w1 from b1)
  have kx := HK1.out.below b1 (by have := HS.out; omega)
  have x0 := kx.cell 0
  have x1 := kx.cell 1
  have x2 := kx.cell 2
  have x3 := kx.cell 3
  have x4 := kx.cell 4
  have x5 := kx.cell 5
  have x6 := kx.cell 6
  have L1 := bk_load (P := Tryd.prog) 8 kx rfl
  clear L0 b1 kx
  go_wp2_with fail
  refine (RI.out _ (HB.out.trans (B1.out.mono HB.out.size))).mono ?_
  rintro e w9 ⟨rfl, rfl⟩

  have kx := HK1.out.below B1.out (by have := HS.out; omega)
  have st5 := store_slI none 0 0 (kx.cell 5) (kx.frozen 5)
  have k5 : Blk (w1.setCell ⟨w.heap.size, 5, none⟩ (.slice none 0 0)) w.heap.size 26 #[.int .i8 c.st, .int .i64 c.pid, .int .i64 c.ep, .int .i64 c.tm, .int .i64 c.th, .slice none 0 0, .slice D1 c.qs.length e1, .int .i64 c.ag] := kx.set_ 5 (.slice none 0 0)
  have k35 := (HK3.out.below B1.out (by have := HS.out; omega)).far (p := ⟨w.heap.size, 5, none⟩) (by simp) (.slice none 0 0)
  have b5 := (HB.out.trans (B1.out.mono HB.out.size)).setCell (p := ⟨w.heap.size, 5, none⟩) (Nat.le_refl _) (.slice none 0 0)
  have L5 := bk_load (P := Tryd.prog) 8 k5 rfl
  have K35 := Lib.hid k35
  have B5 := Lib.hid b5
  clear kx k5 k35 b5
  go_upto_region 17 with (fail)
  clear st5 x0 x1 x2 x3 x4 x5 x6 L1
  generalize w1.setCell ⟨w.heap.size, 5, none⟩ (.slice none 0 0) = W8 at *
  obtain ⟨W9, st9, kk, fb, fh, fs⟩ := bk_store (P := Tryd.prog) (ty := 26) (cs := #[.int .i8 c.st, .int .i64 c.pid, .int .i64 c.ep, .int .i64 c.tm, .int .i64 c.th, .slice none 0 0, .slice D1 c.qs.length e1, .int .i64 c.ag]) 8 K35.out infoCo rfl rfl (by simp [Value.oneCell'])
  have BB := Lib.hid (fb w.heap.size w (by omega) B5.out)
  have KK := Lib.hid kk
  clear kk fb fh fs
  go_wp2_with fail
  refine bodyPost_ret (v := .tuple #[.agg #[.int .i8 c.st, .int .i64 c.pid, .int .i64 c.ep, .int .i64 c.tm, .int .i64 c.th, .slice none 0 0, .slice D1 c.qs.length e1, .int .i64 c.ag], .int .i64 0]) (rplace_ret { c with ps := [] } none D1 0 e1 0 _ (w.heap.size + 1) _ rfl rfl KK.out) rfl ?_
  rw [HE.out, HC.out]
  have rr := H1.out.up BB.out
  exact ⟨none, D1, 0, e1, rfl, ⟨Reads.none_, rr.2.1, Nat.zero_le _, rr.2.2.2⟩, BB.out, fun b hb o1 o2 => ⟨offB_none', o2⟩⟩
set_option maxRecDepth 100000 in
set_option maxHeartbeats 2000000 in
theorem rplace_e3 (c : Co) (A1 D1 : Option Addr) (c1 e1 : Nat) (l : List Int) (AL : Option Addr) (ml : Nat) (w : World) (h1 : CoR w w.heap.size c A1 D1) (h8 : -128 ≤ c.st) (h9 : c.st ≤ 127) (hr : Reads w w.heap.size 1 AL l.length (cellsI .i64 l)) (hll : l.length ≤ 1000) (hmay : mayB c = true) (kp : partsB l = true) (kst : c.st = 3) :
    Calls Tryd.prog 46 #[(.agg #[.int .i8 c.st, .int .i64 c.pid, .int .i64 c.ep, .int .i64 c.tm, .int .i64 c.th, .slice A1 c.ps.length c1, .slice D1 c.qs.length e1, .int .i64 c.ag]), .slice AL l.length ml] w (MvP c A1 D1 (placeC c l) (placeE c l) w) := by
  have HR := Lib.hid hr
  have HLL := Lib.hid hll
  have HE := Lib.hid (show placeE c l = 0 by unfold placeE; rw [if_neg (by rw [hmay, kp]; simp)]; rw [if_neg (by omega)])
  have HC := Lib.hid (show placeC c l = { c with ps := l } by unfold placeC; rw [if_neg (by rw [HE.out]; decide), if_pos (by omega)])
  have RI := Lib.hid (fun W (hb : Below w.heap.size w W) => rise_any AL l ml w.heap.size W (Reads.below hr hb) (by omega))
  rw [riseB_parts, kp] at RI
  have z0 : (c.st == 0) = false := by rw [kst]; rfl
  have z3 : (c.st == 3) = true := by rw [kst]; rfl
  have z4 : (c.st == 4) = false := by rw [kst]; rfl
  have z2 : (c.st == 2) = false := by rw [kst]; rfl

  obtain ⟨W0, hW0⟩ : ∃ W0, W0 = (w.alloc (.cells #[.int .i8 c.st, .int .i64 c.pid, .int .i64 c.ep, .int .i64 c.tm, .int .i64 c.th, .slice A1 c.ps.length c1, .slice D1 c.qs.length e1, .int .i64 c.ag] 26)).alloc (.cells #[.int .i8 0, .int .i64 0, .int .i64 0, .int .i64 0, .int .i64 0, .slice none 0 0, .slice none 0 0, .int .i64 0] 26) := ⟨_, rfl⟩
  have s0 : W0.heap.size = w.heap.size + 1 + 1 := by rw [hW0]; simp
  have B0 : Below w.heap.size w W0 := by rw [hW0]; exact bal (bal (Below.refl _ _) _) _
  have K1 : Blk W0 w.heap.size 26 #[.int .i8 c.st, .int .i64 c.pid, .int .i64 c.ep, .int .i64 c.tm, .int .i64 c.th, .slice A1 c.ps.length c1, .slice D1 c.qs.length e1, .int .i64 c.ag] := by rw [hW0]; exact (Blk.new w 26 #[.int .i8 c.st, .int .i64 c.pid, .int .i64 c.ep, .int .i64 c.tm, .int .i64 c.th, .slice A1 c.ps.length c1, .slice D1 c.qs.length e1, .int .i64 c.ag]).alloc _
  have K3 : Blk W0 (w.heap.size + 1) 26 #[.int .i8 0, .int .i64 0, .int .i64 0, .int .i64 0, .int .i64 0, .slice none 0 0, .slice none 0 0, .int .i64 0] := by rw [hW0]; exact bk_new _ 26 #[.int .i8 0, .int .i64 0, .int .i64 0, .int .i64 0, .int .i64 0, .slice none 0 0, .slice none 0 0, .int .i64 0] (by simp)
  have HW := Lib.hid hW0
  have HS := Lib.hid s0
  have HB := Lib.hid B0
  have HK1 := Lib.hid K1
  have HK3 := Lib.hid K3
  have H1 := Lib.hid h1
  have MY := Lib.hid (rMay_any c A1 D1 c1 e1 w.heap.size W0 (h1.below B0) B0.size h8 h9)
  rw [hmay] at MY
  have L0 := bk_load (P := Tryd.prog) 8 K1 rfl
  clear hW0 s0 B0 K1 K3 h1 h8 h9 hmay hr kp kst
  go_enter Tryd.func46, Tryd.ntmps46
  go_upto_region 1 with (fail)
  rw [← HW.out]
  go_wp2_with fail
  refine MY.out.mono ?_
  rintro e w1 ⟨rfl, b1⟩
  have B1 := Lib.hid (show Below W0.heap.size W0 w1 from b1)
  have kx := HK1.out.below b1 (by have := HS.out; omega)
  have x0 := kx.cell 0
  have x1 := kx.cell 1
  have x2 := kx.cell 2
  have x3 := kx.cell 3
  have x4 := kx.cell 4
  have x5 := kx.cell 5
  have x6 := kx.cell 6
  have L1 := bk_load (P := Tryd.prog) 8 kx rfl
  clear L0 b1 kx
  go_wp2_with fail
  refine (RI.out _ (HB.out.trans (B1.out.mono HB.out.size))).mono ?_
  rintro e w9 ⟨rfl, rfl⟩

  obtain ⟨i0, hi0, hz0, hz1, hz2⟩ := info_parts infoI
  have kx := HK1.out.below B1.out (by have := HS.out; omega)
  have st5 := store_slI none 0 0 (kx.cell 5) (kx.frozen 5)
  have k5 : Blk (w1.setCell ⟨w.heap.size, 5, none⟩ (.slice none 0 0)) w.heap.size 26 #[.int .i8 c.st, .int .i64 c.pid, .int .i64 c.ep, .int .i64 c.tm, .int .i64 c.th, .slice none 0 0, .slice D1 c.qs.length e1, .int .i64 c.ag] := kx.set_ 5 (.slice none 0 0)
  have k35 := (HK3.out.below B1.out (by have := HS.out; omega)).far (p := ⟨w.heap.size, 5, none⟩) (by simp) (.slice none 0 0)
  have b5 := (HB.out.trans (B1.out.mono HB.out.size)).setCell (p := ⟨w.heap.size, 5, none⟩) (Nat.le_refl _) (.slice none 0 0)
  have x5' := k5.cell 5
  have KA := Lib.hid k5
  have KC := Lib.hid k35
  have BA := Lib.hid b5
  clear kx k5 k35 b5
  go_upto_region 9 with (fail)
  clear x0 x1 x2 x3 x4 x5 x6 L1 st5
  generalize (w1.setCell ⟨w.heap.size, 5, none⟩ (.slice none 0 0)) = W8 at *
  go_wp2_with (at_builtin; refine wpList_append_any _ rfl (.tmp 33) (.tmp 34) 23 rfl W8.heap.size 3 i0 (.int .i64 0) 1 8 Tryd.underlying23 hi0 hz0 hz1 hz2 rfl (by decide) (.slice none 0 0) 0 [] rfl (World.ownsRow_nil _ _ _ _) w.heap.size AL l.length ml (cellsI .i64 l) rfl (HR.out.below BA.out) (cellsI_one _) (by unfold maxLen; omega) (by omega) (Nat.le_refl _) ?_; intro v3 W3 hown3 hg3 hat3; rw [Nat.zero_add, List.nil_append] at hown3; obtain ⟨A3, c3, rfl, hc3⟩ := own_slice hown3; have k3' := KA.out.grown hg3 (by simp [Value.ownBlock]); have st7 := store_slI A3 l.length c3 (k3'.cell 5) (k3'.frozen 5); have kz : Blk (W3.setCell ⟨w.heap.size, 5, none⟩ (.slice A3 l.length c3)) w.heap.size 26 #[.int .i8 c.st, .int .i64 c.pid, .int .i64 c.ep, .int .i64 c.tm, .int .i64 c.th, .slice A3 l.length c3, .slice D1 c.qs.length e1, .int .i64 c.ag] := k3'.set_ 5 (.slice A3 l.length c3); have L7 := bk_load (P := Tryd.prog) 8 kz rfl; have k37 := (KC.out.grown hg3 (by simp [Value.ownBlock])).far (p := ⟨w.heap.size, 5, none⟩) (by simp) (.slice A3 l.length c3); have b7 := (BA.out.grown hg3 BA.out.size (fun k e => by simp [Value.ownBlock] at e)).setCell (p := ⟨w.heap.size, 5, none⟩) (Nat.le_refl _) (.slice A3 l.length c3); have o7 := bk_own (w' := W3.setCell ⟨w.heap.size, 5, none⟩ (.slice A3 l.length c3)) hown3 (fun y hy => Below.heap_setCell _ _ _ _ (by have := (hown3.lt y hy).1; have := BA.out.size; have := KC.out.lt; show y ≠ w.heap.size; omega)); obtain ⟨W9, st9, kk, fb, fh, fs⟩ := bk_store (P := Tryd.prog) (ty := 26) (cs := #[.int .i8 c.st, .int .i64 c.pid, .int .i64 c.ep, .int .i64 c.tm, .int .i64 c.th, .slice A3 l.length c3, .slice D1 c.qs.length e1, .int .i64 c.ag]) 8 k37 infoCo rfl rfl (by simp [Value.oneCell']); have BB := Lib.hid (fb w.heap.size w (by omega) b7); have OO := Lib.hid (bk_own o7 (fun y hy => fh y (by have := (hown3.lt y hy).1; have := KC.out.lt; omega))); have KK := Lib.hid kk; have HL8 := Lib.hid (show w.heap.size ≤ W8.heap.size from BA.out.size); clear k3' kz k37 b7 o7 kk fb fh fs)
  refine bodyPost_ret (v := .tuple #[.agg #[.int .i8 c.st, .int .i64 c.pid, .int .i64 c.ep, .int .i64 c.tm, .int .i64 c.th, .slice A3 l.length c3, .slice D1 c.qs.length e1, .int .i64 c.ag], .int .i64 0]) (rplace_ret { c with ps := l } A3 D1 c3 e1 0 _ (w.heap.size + 1) _ rfl rfl KK.out) rfl ?_
  rw [HE.out, HC.out]
  have rr := H1.out.up BB.out
  have na := newAt_of_own OO.out
  exact ⟨A3, D1, c3, e1, rfl, ⟨Reads.of_own OO.out, rr.2.1, HLL.out, rr.2.2.2⟩, BB.out, fun b hb o1 o2 => ⟨na.off (by have := HL8.out; omega), o2⟩⟩
set_option maxRecDepth 100000 in
set_option maxHeartbeats 2000000 in
theorem rplace_e4 (c : Co) (A1 D1 : Option Addr) (c1 e1 : Nat) (l : List Int) (AL : Option Addr) (ml : Nat) (w : World) (h1 : CoR w w.heap.size c A1 D1) (h8 : -128 ≤ c.st) (h9 : c.st ≤ 127) (hr : Reads w w.heap.size 1 AL l.length (cellsI .i64 l)) (hll : l.length ≤ 1000) (hmay : mayB c = true) (kp : partsB l = true) (kst : c.st = 4) :
    Calls Tryd.prog 46 #[(.agg #[.int .i8 c.st, .int .i64 c.pid, .int .i64 c.ep, .int .i64 c.tm, .int .i64 c.th, .slice A1 c.ps.length c1, .slice D1 c.qs.length e1, .int .i64 c.ag]), .slice AL l.length ml] w (MvP c A1 D1 (placeC c l) (placeE c l) w) := by
  have HR := Lib.hid hr
  have HLL := Lib.hid hll
  have HE := Lib.hid (show placeE c l = 0 by unfold placeE; rw [if_neg (by rw [hmay, kp]; simp)]; rw [if_neg (by omega)])
  have HC := Lib.hid (show placeC c l = { c with ps := l } by unfold placeC; rw [if_neg (by rw [HE.out]; decide), if_pos (by omega)])
  have RI := Lib.hid (fun W (hb : Below w.heap.size w W) => rise_any AL l ml w.heap.size W (Reads.below hr hb) (by omega))
  rw [riseB_parts, kp] at RI
  have z0 : (c.st == 0) = false := by rw [kst]; rfl
  have z3 : (c.st == 3) = false := by rw [kst]; rfl
  have z4 : (c.st == 4) = true := by rw [kst]; rfl
  have z2 : (c.st == 2) = false := by rw [kst]; rfl

  obtain ⟨W0, hW0⟩ : ∃ W0, W0 = (w.alloc (.cells #[.int .i8 c.st, .int .i64 c.pid, .int .i64 c.ep, .int .i64 c.tm, .int .i64 c.th, .slice A1 c.ps.length c1, .slice D1 c.qs.length e1, .int .i64 c.ag] 26)).alloc (.cells #[.int .i8 0, .int .i64 0, .int .i64 0, .int .i64 0, .int .i64 0, .slice none 0 0, .slice none 0 0, .int .i64 0] 26) := ⟨_, rfl⟩
  have s0 : W0.heap.size = w.heap.size + 1 + 1 := by rw [hW0]; simp
  have B0 : Below w.heap.size w W0 := by rw [hW0]; exact bal (bal (Below.refl _ _) _) _
  have K1 : Blk W0 w.heap.size 26 #[.int .i8 c.st, .int .i64 c.pid, .int .i64 c.ep, .int .i64 c.tm, .int .i64 c.th, .slice A1 c.ps.length c1, .slice D1 c.qs.length e1, .int .i64 c.ag] := by rw [hW0]; exact (Blk.new w 26 #[.int .i8 c.st, .int .i64 c.pid, .int .i64 c.ep, .int .i64 c.tm, .int .i64 c.th, .slice A1 c.ps.length c1, .slice D1 c.qs.length e1, .int .i64 c.ag]).alloc _
  have K3 : Blk W0 (w.heap.size + 1) 26 #[.int .i8 0, .int .i64 0, .int .i64 0, .int .i64 0, .int .i64 0, .slice none 0 0, .slice none 0 0, .int .i64 0] := by rw [hW0]; exact bk_new _ 26 #[.int .i8 0, .int .i64 0, .int .i64 0, .int .i64 0, .int .i64 0, .slice none 0 0, .slice none 0 0, .int .i64 0] (by simp)
  have HW := Lib.hid hW0
  have HS := Lib.hid s0
  have HB := Lib.hid B0
  have HK1 := Lib.hid K1
  have HK3 := Lib.hid K3
  have H1 := Lib.hid h1
  have MY := Lib.hid (rMay_any c A1 D1 c1 e1 w.heap.size W0 (h1.below B0) B0.size h8 h9)
  rw [hmay] at MY
  have L0 := bk_load (P := Tryd.prog) 8 K1 rfl
  clear hW0 s0 B0 K1 K3 h1 h8 h9 hmay hr kp kst
  go_enter Tryd.func46, Tryd.ntmps46
  go_upto_region 1 with (fail)
  rw [← HW.out]
  go_wp2_with fail
  refine MY.out.mono ?_
  rintro e w1 ⟨rfl, b1⟩
  have B1 := Lib.hid (show Below W0.heap.size W0 w1 from b1)
  have kx := HK1.out.below b1 (by have := HS.out; omega)
  have x0 := kx.cell 0
  have x1 := kx.cell 1
  have x2 := kx.cell 2
  have x3 := kx.cell 3
  have x4 := kx.cell 4
  have x5 := kx.cell 5
  have x6 := kx.cell 6
  have L1 := bk_load (P := Tryd.prog) 8 kx rfl
  clear L0 b1 kx
  go_wp2_with fail
  refine (RI.out _ (HB.out.trans (B1.out.mono HB.out.size))).mono ?_
  rintro e w9 ⟨rfl, rfl⟩

  obtain ⟨i0, hi0, hz0, hz1, hz2⟩ := info_parts infoI
  have kx := HK1.out.below B1.out (by have := HS.out; omega)
  have st5 := store_slI none 0 0 (kx.cell 5) (kx.frozen 5)
  have k5 : Blk (w1.setCell ⟨w.heap.size, 5, none⟩ (.slice none 0 0)) w.heap.size 26 #[.int .i8 c.st, .int .i64 c.pid, .int .i64 c.ep, .int .i64 c.tm, .int .i64 c.th, .slice none 0 0, .slice D1 c.qs.length e1, .int .i64 c.ag] := kx.set_ 5 (.slice none 0 0)
  have k35 := (HK3.out.below B1.out (by have := HS.out; omega)).far (p := ⟨w.heap.size, 5, none⟩) (by simp) (.slice none 0 0)
  have b5 := (HB.out.trans (B1.out.mono HB.out.size)).setCell (p := ⟨w.heap.size, 5, none⟩) (Nat.le_refl _) (.slice none 0 0)
  have x5' := k5.cell 5
  have KA := Lib.hid k5
  have KC := Lib.hid k35
  have BA := Lib.hid b5
  clear kx k5 k35 b5
  go_upto_region 9 with (fail)
  clear x0 x1 x2 x3 x4 x5 x6 L1 st5
  generalize (w1.setCell ⟨w.heap.size, 5, none⟩ (.slice none 0 0)) = W8 at *
  go_wp2_with (at_builtin; refine wpList_append_any _ rfl (.tmp 33) (.tmp 34) 23 rfl W8.heap.size 3 i0 (.int .i64 0) 1 8 Tryd.underlying23 hi0 hz0 hz1 hz2 rfl (by decide) (.slice none 0 0) 0 [] rfl (World.ownsRow_nil _ _ _ _) w.heap.size AL l.length ml (cellsI .i64 l) rfl (HR.out.below BA.out) (cellsI_one _) (by unfold maxLen; omega) (by omega) (Nat.le_refl _) ?_; intro v3 W3 hown3 hg3 hat3; rw [Nat.zero_add, List.nil_append] at hown3; obtain ⟨A3, c3, rfl, hc3⟩ := own_slice hown3; have k3' := KA.out.grown hg3 (by simp [Value.ownBlock]); have st7 := store_slI A3 l.length c3 (k3'.cell 5) (k3'.frozen 5); have kz : Blk (W3.setCell ⟨w.heap.size, 5, none⟩ (.slice A3 l.length c3)) w.heap.size 26 #[.int .i8 c.st, .int .i64 c.pid, .int .i64 c.ep, .int .i64 c.tm, .int .i64 c.th, .slice A3 l.length c3, .slice D1 c.qs.length e1, .int .i64 c.ag] := k3'.set_ 5 (.slice A3 l.length c3); have L7 := bk_load (P := Tryd.prog) 8 kz rfl; have k37 := (KC.out.grown hg3 (by simp [Value.ownBlock])).far (p := ⟨w.heap.size, 5, none⟩) (by simp) (.slice A3 l.length c3); have b7 := (BA.out.grown hg3 BA.out.size (fun k e => by simp [Value.ownBlock] at e)).setCell (p := ⟨w.heap.size, 5, none⟩) (Nat.le_refl _) (.slice A3 l.length c3); have o7 := bk_own (w' := W3.setCell ⟨w.heap.size, 5, none⟩ (.slice A3 l.length c3)) hown3 (fun y hy => Below.heap_setCell _ _ _ _ (by have := (hown3.lt y hy).1; have := BA.out.size; have := KC.out.lt; show y ≠ w.heap.size; omega)); obtain ⟨W9, st9, kk, fb, fh, fs⟩ := bk_store (P := Tryd.prog) (ty := 26) (cs := #[.int .i8 c.st, .int .i64 c.pid, .int .i64 c.ep, .int .i64 c.tm, .int .i64 c.th, .slice A3 l.length c3, .slice D1 c.qs.length e1, .int .i64 c.ag]) 8 k37 infoCo rfl rfl (by simp [Value.oneCell']); have BB := Lib.hid (fb w.heap.size w (by omega) b7); have OO := Lib.hid (bk_own o7 (fun y hy => fh y (by have := (hown3.lt y hy).1; have := KC.out.lt; omega))); have KK := Lib.hid kk; have HL8 := Lib.hid (show w.heap.size ≤ W8.heap.size from BA.out.size); clear k3' kz k37 b7 o7 kk fb fh fs)
  refine bodyPost_ret (v := .tuple #[.agg #[.int .i8 c.st, .int .i64 c.pid, .int .i64 c.ep, .int .i64 c.tm, .int .i64 c.th, .slice A3 l.length c3, .slice D1 c.qs.length e1, .int .i64 c.ag], .int .i64 0]) (rplace_ret { c with ps := l } A3 D1 c3 e1 0 _ (w.heap.size + 1) _ rfl rfl KK.out) rfl ?_
  rw [HE.out, HC.out]
  have rr := H1.out.up BB.out
  have na := newAt_of_own OO.out
  exact ⟨A3, D1, c3, e1, rfl, ⟨Reads.of_own OO.out, rr.2.1, HLL.out, rr.2.2.2⟩, BB.out, fun b hb o1 o2 => ⟨na.off (by have := HL8.out; omega), o2⟩⟩
set_option maxRecDepth 100000 in
set_option maxHeartbeats 2000000 in
theorem rplace_h (c : Co) (A1 D1 : Option Addr) (c1 e1 : Nat) (l : List Int) (AL : Option Addr) (ml : Nat) (w : World) (h1 : CoR w w.heap.size c A1 D1) (h8 : -128 ≤ c.st) (h9 : c.st ≤ 127) (hr : Reads w w.heap.size 1 AL l.length (cellsI .i64 l)) (hll : l.length ≤ 1000) (hmay : mayB c = true) (kp : partsB l = true) (kst : c.st = 2) (kl : 0 < l.length) :
    Calls Tryd.prog 46 #[(.agg #[.int .i8 c.st, .int .i64 c.pid, .int .i64 c.ep, .int .i64 c.tm, .int .i64 c.th, .slice A1 c.ps.length c1, .slice D1 c.qs.length e1, .int .i64 c.ag]), .slice AL l.length ml] w (MvP c A1 D1 (placeC c l) (placeE c l) w) := by
  have HR := Lib.hid hr
  have HLL := Lib.hid hll
  have HE := Lib.hid (show placeE c l = 0 by unfold placeE; rw [if_neg (by rw [hmay, kp]; simp)]; rw [if_neg (by omega)])
  have HC := Lib.hid (show placeC c l = { c with st := 2, ps := l } by unfold placeC; rw [if_neg (by rw [HE.out]; decide), if_neg (by omega), if_pos kst, if_neg (by omega)]; cases c; cases kst; rfl)
  have RI := Lib.hid (fun W (hb : Below w.heap.size w W) => rise_any AL l ml w.heap.size W (Reads.below hr hb) (by omega))
  rw [riseB_parts, kp] at RI
  have z0 : (c.st == 0) = false := by rw [kst]; rfl
  have z3 : (c.st == 3) = false := by rw [kst]; rfl
  have z4 : (c.st == 4) = false := by rw [kst]; rfl
  have z2 : (c.st == 2) = true := by rw [kst]; rfl
  have zl : ((l.length : Int) == 0) = false := beq_eq_false_iff_ne.2 (by omega)
  have zn : decide ((0 : Int) < (l.length : Int)) = true := decide_eq_true (by omega)
  have zn' : decide (0 < l.length) = true := decide_eq_true (by omega)
  obtain ⟨W0, hW0⟩ : ∃ W0, W0 = (w.alloc (.cells #[.int .i8 c.st, .int .i64 c.pid, .int .i64 c.ep, .int .i64 c.tm, .int .i64 c.th, .slice A1 c.ps.length c1, .slice D1 c.qs.length e1, .int .i64 c.ag] 26)).alloc (.cells #[.int .i8 0, .int .i64 0, .int .i64 0, .int .i64 0, .int .i64 0, .slice none 0 0, .slice none 0 0, .int .i64 0] 26) := ⟨_, rfl⟩
  have s0 : W0.heap.size = w.heap.size + 1 + 1 := by rw [hW0]; simp
  have B0 : Below w.heap.size w W0 := by rw [hW0]; exact bal (bal (Below.refl _ _) _) _
  have K1 : Blk W0 w.heap.size 26 #[.int .i8 c.st, .int .i64 c.pid, .int .i64 c.ep, .int .i64 c.tm, .int .i64 c.th, .slice A1 c.ps.length c1, .slice D1 c.qs.length e1, .int .i64 c.ag] := by rw [hW0]; exact (Blk.new w 26 #[.int .i8 c.st, .int .i64 c.pid, .int .i64 c.ep, .int .i64 c.tm, .int .i64 c.th, .slice A1 c.ps.length c1, .slice D1 c.qs.length e1, .int .i64 c.ag]).alloc _
  have K3 : Blk W0 (w.heap.size + 1) 26 #[.int .i8 0, .int .i64 0, .int .i64 0, .int .i64 0, .int .i64 0, .slice none 0 0, .slice none 0 0, .int .i64 0] := by rw [hW0]; exact bk_new _ 26 #[.int .i8 0, .int .i64 0, .int .i64 0, .int .i64 0, .int .i64 0, .slice none 0 0, .slice none 0 0, .int .i64 0] (by simp)
  have HW := Lib.hid hW0
  have HS := Lib.hid s0
  have HB := Lib.hid B0
  have HK1 := Lib.hid K1
  have HK3 := Lib.hid K3
  have H1 := Lib.hid h1
  have MY := Lib.hid (rMay_any c A1 D1 c1 e1 w.heap.size W0 (h1.below B0) B0.size h8 h9)
  rw [hmay] at MY
  have L0 := bk_load (P := Tryd.prog) 8 K1 rfl
  clear hW0 s0 B0 K1 K3 h1 h8 h9 hmay hr kp kst kl
  go_enter Tryd.func46, Tryd.ntmps46
  go_upto_region 1 with (fail)
  rw [← HW.out]
  go_wp2_with fail
  refine MY.out.mono ?_
  rintro e w1 ⟨rfl, b1⟩
  have B1 := Lib.hid (show Below W0.heap.size W0 w1 from b1)
  have kx := HK1.out.below b1 (by have := HS.out; omega)
  have x0 := kx.cell 0
  have x1 := kx.cell 1
  have x2 := kx.cell 2
  have x3 := kx.cell 3
  have x4 := kx.cell 4
  have x5 := kx.cell 5
  have x6 := kx.cell 6
  have L1 := bk_load (P := Tryd.prog) 8 kx rfl
  clear L0 b1 kx
  go_wp2_with fail
  refine (RI.out _ (HB.out.trans (B1.out.mono HB.out.size))).mono ?_
  rintro e w9 ⟨rfl, rfl⟩

  obtain ⟨i0, hi0, hz0, hz1, hz2⟩ := info_parts infoI
  have kx := HK1.out.below B1.out (by have := HS.out; omega)
  have st5 := store_slI none 0 0 (kx.cell 5) (kx.frozen 5)
  have k5 : Blk (w1.setCell ⟨w.heap.size, 5, none⟩ (.slice none 0 0)) w.heap.size 26 #[.int .i8 c.st, .int .i64 c.pid, .int .i64 c.ep, .int .i64 c.tm, .int .i64 c.th, .slice none 0 0, .slice D1 c.qs.length e1, .int .i64 c.ag] := kx.set_ 5 (.slice none 0 0)
  have k35 := (HK3.out.below B1.out (by have := HS.out; omega)).far (p := ⟨w.heap.size, 5, none⟩) (by simp) (.slice none 0 0)
  have b5 := (HB.out.trans (B1.out.mono HB.out.size)).setCell (p := ⟨w.heap.size, 5, none⟩) (Nat.le_refl _) (.slice none 0 0)
  have st6 := store_i8 2 (k5.cell 0) (k5.frozen 0)
  have k6 : Blk ((w1.setCell ⟨w.heap.size, 5, none⟩ (.slice none 0 0)).setCell ⟨w.heap.size, 0, none⟩ (.int .i8 2)) w.heap.size 26 #[.int .i8 2, .int .i64 c.pid, .int .i64 c.ep, .int .i64 c.tm, .int .i64 c.th, .slice none 0 0, .slice D1 c.qs.length e1, .int .i64 c.ag] := k5.set_ 0 (.int .i8 2)
  have k36 := k35.far (p := ⟨w.heap.size, 0, none⟩) (by simp) (.int .i8 2)
  have b6 := b5.setCell (p := ⟨w.heap.size, 0, none⟩) (Nat.le_refl _) (.int .i8 2)
  have x5' := k6.cell 5
  have KA := Lib.hid k6
  have KC := Lib.hid k36
  have BA := Lib.hid b6
  clear kx k5 k35 b5 k6 k36 b6
  go_upto_region 16 with (fail)
  clear x0 x1 x2 x3 x4 x5 x6 L1 st5 st6
  generalize ((w1.setCell ⟨w.heap.size, 5, none⟩ (.slice none 0 0)).setCell ⟨w.heap.size, 0, none⟩ (.int .i8 2)) = W8 at *
  go_wp2_with (at_builtin; refine wpList_append_any _ rfl (.tmp 65) (.tmp 66) 23 rfl W8.heap.size 3 i0 (.int .i64 0) 1 8 Tryd.underlying23 hi0 hz0 hz1 hz2 rfl (by decide) (.slice none 0 0) 0 [] rfl (World.ownsRow_nil _ _ _ _) w.heap.size AL l.length ml (cellsI .i64 l) rfl (HR.out.below BA.out) (cellsI_one _) (by unfold maxLen; omega) (by omega) (Nat.le_refl _) ?_; intro v3 W3 hown3 hg3 hat3; rw [Nat.zero_add, List.nil_append] at hown3; obtain ⟨A3, c3, rfl, hc3⟩ := own_slice hown3; have k3' := KA.out.grown hg3 (by simp [Value.ownBlock]); have st7 := store_slI A3 l.length c3 (k3'.cell 5) (k3'.frozen 5); have kz : Blk (W3.setCell ⟨w.heap.size, 5, none⟩ (.slice A3 l.length c3)) w.heap.size 26 #[.int .i8 2, .int .i64 c.pid, .int .i64 c.ep, .int .i64 c.tm, .int .i64 c.th, .slice A3 l.length c3, .slice D1 c.qs.length e1, .int .i64 c.ag] := k3'.set_ 5 (.slice A3 l.length c3); have L7 := bk_load (P := Tryd.prog) 8 kz rfl; have k37 := (KC.out.grown hg3 (by simp [Value.ownBlock])).far (p := ⟨w.heap.size, 5, none⟩) (by simp) (.slice A3 l.length c3); have b7 := (BA.out.grown hg3 BA.out.size (fun k e => by simp [Value.ownBlock] at e)).setCell (p := ⟨w.heap.size, 5, none⟩) (Nat.le_refl _) (.slice A3 l.length c3); have o7 := bk_own (w' := W3.setCell ⟨w.heap.size, 5, none⟩ (.slice A3 l.length c3)) hown3 (fun y hy => Below.heap_setCell _ _ _ _ (by have := (hown3.lt y hy).1; have := BA.out.size; have := KC.out.lt; show y ≠ w.heap.size; omega)); obtain ⟨W9, st9, kk, fb, fh, fs⟩ := bk_store (P := Tryd.prog) (ty := 26) (cs := #[.int .i8 2, .int .i64 c.pid, .int .i64 c.ep, .int .i64 c.tm, .int .i64 c.th, .slice A3 l.length c3, .slice D1 c.qs.length e1, .int .i64 c.ag]) 8 k37 infoCo rfl rfl (by simp [Value.oneCell']); have BB := Lib.hid (fb w.heap.size w (by omega) b7); have OO := Lib.hid (bk_own o7 (fun y hy => fh y (by have := (hown3.lt y hy).1; have := KC.out.lt; omega))); have KK := Lib.hid kk; have HL8 := Lib.hid (show w.heap.size ≤ W8.heap.size from BA.out.size); clear k3' kz k37 b7 o7 kk fb fh fs)
  refine bodyPost_ret (v := .tuple #[.agg #[.int .i8 2, .int .i64 c.pid, .int .i64 c.ep, .int .i64 c.tm, .int .i64 c.th, .slice A3 l.length c3, .slice D1 c.qs.length e1, .int .i64 c.ag], .int .i64 0]) (rplace_ret { c with st := 2, ps := l } A3 D1 c3 e1 0 _ (w.heap.size + 1) _ rfl rfl KK.out) rfl ?_
  rw [HE.out, HC.out]
  have rr := H1.out.up BB.out
  have na := newAt_of_own OO.out
  exact ⟨A3, D1, c3, e1, rfl, ⟨Reads.of_own OO.out, rr.2.1, HLL.out, rr.2.2.2⟩, BB.out, fun b hb o1 o2 => ⟨na.off (by have := HL8.out; omega), o2⟩⟩
set_option maxRecDepth 100000 in
set_option maxHeartbeats 2000000 in
theorem rplace_j (c : Co) (A1 D1 : Option Addr) (c1 e1 : Nat) (l : List Int) (AL : Option Addr) (ml : Nat) (w : World) (h1 : CoR w w.heap.size c A1 D1) (h8 : -128 ≤ c.st) (h9 : c.st ≤ 127) (hr : Reads w w.heap.size 1 AL l.length (cellsI .i64 l)) (hll : l.length ≤ 1000) (hmay : mayB c = true) (kp : partsB l = true) (ki : c.st = 1 ∨ c.st = 5 ∨ c.st = 6) (kl : 0 < l.length) :
    Calls Tryd.prog 46 #[(.agg #[.int .i8 c.st, .int .i64 c.pid, .int .i64 c.ep, .int .i64 c.tm, .int .i64 c.th, .slice A1 c.ps.length c1, .slice D1 c.qs.length e1, .int .i64 c.ag]), .slice AL l.length ml] w (MvP c A1 D1 (placeC c l) (placeE c l) w) := by
  have HR := Lib.hid hr
  have HLL := Lib.hid hll
  have HE := Lib.hid (show placeE c l = 0 by unfold placeE; rw [if_neg (by rw [hmay, kp]; simp)]; rw [if_neg (by omega)])
  have HC := Lib.hid (show placeC c l = { c with ps := l, st := 2 } by unfold placeC; rw [if_neg (by rw [HE.out]; decide), if_neg (by omega), if_neg (by omega), if_pos kl])
  have RI := Lib.hid (fun W (hb : Below w.heap.size w W) => rise_any AL l ml w.heap.size W (Reads.below hr hb) (by omega))
  rw [riseB_parts, kp] at RI
  have z0 : (c.st == 0) = false := by simp; omega
  have z3 : (c.st == 3) = false := by simp; omega
  have z4 : (c.st == 4) = false := by simp; omega
  have z2 : (c.st == 2) = false := by simp; omega
  have zl : ((l.length : Int) == 0) = false := beq_eq_false_iff_ne.2 (by omega)
  have zn : decide ((0 : Int) < (l.length : Int)) = true := decide_eq_true (by omega)
  have zn' : decide (0 < l.length) = true := decide_eq_true (by omega)
  obtain ⟨W0, hW0⟩ : ∃ W0, W0 = (w.alloc (.cells #[.int .i8 c.st, .int .i64 c.pid, .int .i64 c.ep, .int .i64 c.tm, .int .i64 c.th, .slice A1 c.ps.length c1, .slice D1 c.qs.length e1, .int .i64 c.ag] 26)).alloc (.cells #[.int .i8 0, .int .i64 0, .int .i64 0, .int .i64 0, .int .i64 0, .slice none 0 0, .slice none 0 0, .int .i64 0] 26) := ⟨_, rfl⟩
  have s0 : W0.heap.size = w.heap.size + 1 + 1 := by rw [hW0]; simp
  have B0 : Below w.heap.size w W0 := by rw [hW0]; exact bal (bal (Below.refl _ _) _) _
  have K1 : Blk W0 w.heap.size 26 #[.int .i8 c.st, .int .i64 c.pid, .int .i64 c.ep, .int .i64 c.tm, .int .i64 c.th, .slice A1 c.ps.length c1, .slice D1 c.qs.length e1, .int .i64 c.ag] := by rw [hW0]; exact (Blk.new w 26 #[.int .i8 c.st, .int .i64 c.pid, .int .i64 c.ep, .int .i64 c.tm, .int .i64 c.th, .slice A1 c.ps.length c1, .slice D1 c.qs.length e1, .int .i64 c.ag]).alloc _
  have K3 : Blk W0 (w.heap.size + 1) 26 #[.int .i8 0, .int .i64 0, .int .i64 0, .int .i64 0, .int .i64 0, .slice none 0 0, .slice none 0 0, .int .i64 0] := by rw [hW0]; exact bk_new _ 26 #[.int .i8 0, .int .i64 0, .int .i64 0, .int .i64 0, .int .i64 0, .slice none 0 0, .slice none 0 0, .int .i64 0] (by simp)
  have HW := Lib.hid hW0
  have HS := Lib.hid s0
  have HB := Lib.hid B0
  have HK1 := Lib.hid K1
  have HK3 := Lib.hid K3
  have H1 := Lib.hid h1
  have MY := Lib.hid (rMay_any c A1 D1 c1 e1 w.heap.size W0 (h1.below B0) B0.size h8 h9)
  rw [hmay] at MY
  have L0 := bk_load (P := Tryd.prog) 8 K1 rfl
  clear hW0 s0 B0 K1 K3 h1 h8 h9 hmay hr kp ki kl
  go_enter Tryd.func46, Tryd.ntmps46
  go_upto_region 1 with (fail)
  rw [← HW.out]
  go_wp2_with fail
  refine MY.out.mono ?_
  rintro e w1 ⟨rfl, b1⟩
  have B1 := Lib.hid (show Below W0.heap.size W0 w1 from b1)
  have kx := HK1.out.below b1 (by have := HS.out; omega)
  have x0 := kx.cell 0
  have x1 := kx.cell 1
  have x2 := kx.cell 2
  have x3 := kx.cell 3
  have x4 := kx.cell 4
  have x5 := kx.cell 5
  have x6 := kx.cell 6
  have L1 := bk_load (P := Tryd.prog) 8 kx rfl
  clear L0 b1 kx
  go_wp2_with fail
  refine (RI.out _ (HB.out.trans (B1.out.mono HB.out.size))).mono ?_
  rintro e w9 ⟨rfl, rfl⟩

  obtain ⟨i0, hi0, hz0, hz1, hz2⟩ := info_parts infoI
  have kx := HK1.out.below B1.out (by have := HS.out; omega)
  have st5 := store_slI none 0 0 (kx.cell 5) (kx.frozen 5)
  have k5 : Blk (w1.setCell ⟨w.heap.size, 5, none⟩ (.slice none 0 0)) w.heap.size 26 #[.int .i8 c.st, .int .i64 c.pid, .int .i64 c.ep, .int .i64 c.tm, .int .i64 c.th, .slice none 0 0, .slice D1 c.qs.length e1, .int .i64 c.ag] := kx.set_ 5 (.slice none 0 0)
  have k35 := (HK3.out.below B1.out (by have := HS.out; omega)).far (p := ⟨w.heap.size, 5, none⟩) (by simp) (.slice none 0 0)
  have b5 := (HB.out.trans (B1.out.mono HB.out.size)).setCell (p := ⟨w.heap.size, 5, none⟩) (Nat.le_refl _) (.slice none 0 0)
  have st6 := store_i8 2 (k5.cell 0) (k5.frozen 0)
  have k6 : Blk ((w1.setCell ⟨w.heap.size, 5, none⟩ (.slice none 0 0)).setCell ⟨w.heap.size, 0, none⟩ (.int .i8 2)) w.heap.size 26 #[.int .i8 2, .int .i64 c.pid, .int .i64 c.ep, .int .i64 c.tm, .int .i64 c.th, .slice none 0 0, .slice D1 c.qs.length e1, .int .i64 c.ag] := k5.set_ 0 (.int .i8 2)
  have k36 := k35.far (p := ⟨w.heap.size, 0, none⟩) (by simp) (.int .i8 2)
  have b6 := b5.setCell (p := ⟨w.heap.size, 0, none⟩) (Nat.le_refl _) (.int .i8 2)
  have x5' := k6.cell 5
  have KA := Lib.hid k6
  have KC := Lib.hid k36
  have BA := Lib.hid b6
  clear kx k5 k35 b5 k6 k36 b6
  go_upto_region 16 with (fail)
  clear x0 x1 x2 x3 x4 x5 x6 L1 st5 st6
  generalize ((w1.setCell ⟨w.heap.size, 5, none⟩ (.slice none 0 0)).setCell ⟨w.heap.size, 0, none⟩ (.int .i8 2)) = W8 at *
  go_wp2_with (at_builtin; refine wpList_append_any _ rfl (.tmp 65) (.tmp 66) 23 rfl W8.heap.size 3 i0 (.int .i64 0) 1 8 Tryd.underlying23 hi0 hz0 hz1 hz2 rfl (by decide) (.slice none 0 0) 0 [] rfl (World.ownsRow_nil _ _ _ _) w.heap.size AL l.length ml (cellsI .i64 l) rfl (HR.out.below BA.out) (cellsI_one _) (by unfold maxLen; omega) (by omega) (Nat.le_refl _) ?_; intro v3 W3 hown3 hg3 hat3; rw [Nat.zero_add, List.nil_append] at hown3; obtain ⟨A3, c3, rfl, hc3⟩ := own_slice hown3; have k3' := KA.out.grown hg3 (by simp [Value.ownBlock]); have st7 := store_slI A3 l.length c3 (k3'.cell 5) (k3'.frozen 5); have kz : Blk (W3.setCell ⟨w.heap.size, 5, none⟩ (.slice A3 l.length c3)) w.heap.size 26 #[.int .i8 2, .int .i64 c.pid, .int .i64 c.ep, .int .i64 c.tm, .int .i64 c.th, .slice A3 l.length c3, .slice D1 c.qs.length e1, .int .i64 c.ag] := k3'.set_ 5 (.slice A3 l.length c3); have L7 := bk_load (P := Tryd.prog) 8 kz rfl; have k37 := (KC.out.grown hg3 (by simp [Value.ownBlock])).far (p := ⟨w.heap.size, 5, none⟩) (by simp) (.slice A3 l.length c3); have b7 := (BA.out.grown hg3 BA.out.size (fun k e => by simp [Value.ownBlock] at e)).setCell (p := ⟨w.heap.size, 5, none⟩) (Nat.le_refl _) (.slice A3 l.length c3); have o7 := bk_own (w' := W3.setCell ⟨w.heap.size, 5, none⟩ (.slice A3 l.length c3)) hown3 (fun y hy => Below.heap_setCell _ _ _ _ (by have := (hown3.lt y hy).1; have := BA.out.size; have := KC.out.lt; show y ≠ w.heap.size; omega)); obtain ⟨W9, st9, kk, fb, fh, fs⟩ := bk_store (P := Tryd.prog) (ty := 26) (cs := #[.int .i8 2, .int .i64 c.pid, .int .i64 c.ep, .int .i64 c.tm, .int .i64 c.th, .slice A3 l.length c3, .slice D1 c.qs.length e1, .int .i64 c.ag]) 8 k37 infoCo rfl rfl (by simp [Value.oneCell']); have BB := Lib.hid (fb w.heap.size w (by omega) b7); have OO := Lib.hid (bk_own o7 (fun y hy => fh y (by have := (hown3.lt y hy).1; have := KC.out.lt; omega))); have KK := Lib.hid kk; have HL8 := Lib.hid (show w.heap.size ≤ W8.heap.size from BA.out.size); clear k3' kz k37 b7 o7 kk fb fh fs)
  refine bodyPost_ret (v := .tuple #[.agg #[.int .i8 2, .int .i64 c.pid, .int .i64 c.ep, .int .i64 c.tm, .int .i64 c.th, .slice A3 l.length c3, .slice D1 c.qs.length e1, .int .i64 c.ag], .int .i64 0]) (rplace_ret { c with st := 2, ps := l } A3 D1 c3 e1 0 _ (w.heap.size + 1) _ rfl rfl KK.out) rfl ?_
  rw [HE.out, HC.out]
  have rr := H1.out.up BB.out
  have na := newAt_of_own OO.out
  exact ⟨A3, D1, c3, e1, rfl, ⟨Reads.of_own OO.out, rr.2.1, HLL.out, rr.2.2.2⟩, BB.out, fun b hb o1 o2 => ⟨na.off (by have := HL8.out; omega), o2⟩⟩
theorem rPlace_any (c : Co) (A1 D1 : Option Addr) (c1 e1 : Nat) (l : List Int) (AL : Option Addr) (ml : Nat) (w : World) (h1 : CoR w w.heap.size c A1 D1) (h8 : -128 ≤ c.st) (h9 : c.st ≤ 127) (hr : Reads w w.heap.size 1 AL l.length (cellsI .i64 l)) (hll : l.length ≤ 1000) :
    Calls Tryd.prog 46 #[(.agg #[.int .i8 c.st, .int .i64 c.pid, .int .i64 c.ep, .int .i64 c.tm, .int .i64 c.th, .slice A1 c.ps.length c1, .slice D1 c.qs.length e1, .int .i64 c.ag]), .slice AL l.length ml] w (MvP c A1 D1 (placeC c l) (placeE c l) w) := by
  cases hm : mayB c
  · exact rplace_a c A1 D1 c1 e1 l AL ml w h1 h8 h9 hr hll hm
  cases kp : partsB l
  · exact rplace_b c A1 D1 c1 e1 l AL ml w h1 h8 h9 hr hll hm kp
  by_cases k0 : c.st = 0
  · by_cases kl : 0 < l.length
    · exact rplace_c c A1 D1 c1 e1 l AL ml w h1 h8 h9 hr hll hm kp k0 kl
    · exact rplace_d c A1 D1 c1 e1 l AL ml w h1 h8 h9 hr hll hm kp k0 (by omega)
  by_cases k3 : c.st = 3
  · exact rplace_e3 c A1 D1 c1 e1 l AL ml w h1 h8 h9 hr hll hm kp k3
  by_cases k4 : c.st = 4
  · exact rplace_e4 c A1 D1 c1 e1 l AL ml w h1 h8 h9 hr hll hm kp k4
  by_cases k2 : c.st = 2
  · by_cases kl : 0 < l.length
    · exact rplace_h c A1 D1 c1 e1 l AL ml w h1 h8 h9 hr hll hm kp k2 kl
    · by_cases kq : c.qs.length = 0
      · exact rplace_f c A1 D1 c1 e1 l AL ml w h1 h8 h9 hr hll hm kp k2 (by omega) kq
      · exact rplace_g c A1 D1 c1 e1 l AL ml w h1 h8 h9 hr hll hm kp k2 (by omega) kq
  have ki : c.st = 1 ∨ c.st = 5 ∨ c.st = 6 := by have := may_st hm; omega
  by_cases kl : 0 < l.length
  · exact rplace_j c A1 D1 c1 e1 l AL ml w h1 h8 h9 hr hll hm kp ki kl
  · exact rplace_i c A1 D1 c1 e1 l AL ml w h1 h8 h9 hr hll hm kp ki (by omega)
end
end Go.Proofs.YtagclnmchkgpdaaDoor
namespace Go.Proofs.YtagclnmchkgpdaaDoor
open Go.RowKit
/-- How the document puts a partition into its place. -/
def goL (q : Int) : List Int → Bool → List Int
  | [], d => if d then [] else [q]
  | x :: t, d => if d = false ∧ q < x then q :: x :: goL q t true else x :: goL q t d
theorem goL_done (q : Int) : ∀ l : List Int, goL q l true = l
  | [] => rfl
  | x :: t => by unfold goL; rw [if_neg (fun h => by cases h.1), goL_done q t]
theorem goL_keep (q : Int) : ∀ l : List Int, l.Pairwise (fun a b => a < b) → goL q l (decide (q ∈ l)) = keepF (fun y => cmpI y q) l q
  | [], _ => rfl
  | x :: t, h => by
    have h' := List.pairwise_cons.1 h
    have c1 := cmpI_neg x q
    have c2 := cmpI_zero x q
    rw [keepF_cons]
    by_cases hin : q ∈ x :: t
    · rw [decide_eq_true hin, goL_done]
      by_cases hx : x < q
      · have hqt : q ∈ t := by
          rcases List.mem_cons.1 hin with h | h
          · omega
          · exact h
        have ih := goL_keep q t h'.2
        rw [decide_eq_true hqt, goL_done] at ih
        rw [if_pos (c1.2 hx), ← ih]
      · have hxq : x = q := by
          rcases List.mem_cons.1 hin with h | h
          · exact h.symm
          · have := h'.1 q h; omega
        rw [if_neg (fun z => hx (c1.1 z)), if_pos (c2.2 hxq), hxq]
    · have hne : ¬ x = q := fun z => hin (by rw [z]; exact List.mem_cons_self)
      have hqt : ¬ q ∈ t := fun z => hin (List.mem_cons_of_mem _ z)
      have ih := goL_keep q t h'.2
      rw [decide_eq_false hqt] at ih
      rw [decide_eq_false hin]
      unfold goL
      by_cases hx : x < q
      · rw [if_neg (by omega), if_pos (c1.2 hx), ih]
      · rw [if_pos ⟨rfl, by omega⟩, if_neg (fun z => hx (c1.1 z)), if_neg (fun z => hne (c2.1 z)), goL_done]
/-- The blocks of the call, while a list is made. -/
structure MkS (w : World) (n : Nat) (cs : List (TypeId × Array Value)) (W : World) : Prop where
  blk : ∀ j t a, cs[j]? = some (t, a) → Blk W (w.heap.size + j) t a
  bel : Below w.heap.size w W
  top : w.heap.size + n ≤ W.heap.size
theorem MkS.grown {w : World} {n : Nat} {cs : List (TypeId × Array Value)} {W W3 : World} {r : Option Nat} (h : MkS w n cs W) (hl : cs.length = n) (hg : W.grownBy W3 r) (hr : ∀ y, r = some y → w.heap.size + n ≤ y) : MkS w n cs W3 :=
  ⟨fun j t a hj => bk_grown_blk hg (h.blk j t a hj) (fun e => by have := hr _ e; have := (List.getElem?_eq_some_iff.1 hj).1; omega), h.bel.grown hg h.bel.size (fun y hy => by have := hr y hy; omega), Nat.le_trans h.top hg.size⟩
theorem MkS.b0 {w : World} {n : Nat} {t : TypeId} {a : Array Value} {r : List (TypeId × Array Value)} {W : World} (h : MkS w n ((t, a) :: r) W) : Blk W w.heap.size t a := h.blk 0 t a rfl
theorem MkS.b1 {w : World} {n : Nat} {x : TypeId × Array Value} {t : TypeId} {a : Array Value} {r : List (TypeId × Array Value)} {W : World} (h : MkS w n (x :: (t, a) :: r) W) : Blk W (w.heap.size + 1) t a := h.blk 1 t a rfl
theorem MkS.b2 {w : World} {n : Nat} {x y : TypeId × Array Value} {t : TypeId} {a : Array Value} {r : List (TypeId × Array Value)} {W : World} (h : MkS w n (x :: y :: (t, a) :: r) W) : Blk W (w.heap.size + 1 + 1) t a := h.blk 2 t a rfl
theorem MkS.alloc {w : World} {n : Nat} {cs : List (TypeId × Array Value)} {W : World} (h : MkS w n cs W) (hl : cs.length = n) (ob : Obj) : MkS w n cs (W.alloc ob) := h.grown hl (grown_alloc W ob none) (fun y e => by cases e)
theorem MkS.below {w : World} {n : Nat} {cs : List (TypeId × Array Value)} {W W' : World} (h : MkS w n cs W) (hl : cs.length = n) (hb : Below W.heap.size W W') : MkS w n cs W' := h.grown hl (grown_below hb (Nat.le_refl _) none) (fun y e => by cases e)
section
attribute [-go_sem] loadCells storeVar
set_option maxRecDepth 100000 in
theorem radd_ret (x : Co) (A5 D5 : Option Addr) (c5 e5 : Nat) (n : Int) (tmps : Array Value) (b : Nat) (W : World) (h2 : tmps[4]?.getD undef = .pointer (some ⟨b, 0, none⟩)) (h3 : tmps[5]?.getD undef = .int .i64 n) (hK : Blk W b 26 #[.int .i8 x.st, .int .i64 x.pid, .int .i64 x.ep, .int .i64 x.tm, .int .i64 x.th, .slice A5 x.ps.length c5, .slice D5 x.qs.length e5, .int .i64 x.ag]) :
    (results Tryd.f41 tmps).run Tryd.prog W = .ok (.tuple #[(.agg #[.int .i8 x.st, .int .i64 x.pid, .int .i64 x.ep, .int .i64 x.tm, .int .i64 x.th, .slice A5 x.ps.length c5, .slice D5 x.qs.length e5, .int .i64 x.ag]), .int .i64 n]) W := by
  have LC := bk_load (P := Tryd.prog) 8 hK rfl
  clear hK
  simp [results, Tryd.results41, go_sem, h2, h3, LC]
set_option maxRecDepth 100000 in
set_option maxHeartbeats 2000000 in
theorem radd_a (c : Co) (A1 D1 : Option Addr) (c1 e1 : Nat) (q : Int) (w : World) (h1 : CoR w w.heap.size c A1 D1) (h8 : -128 ≤ c.st) (h9 : c.st ≤ 127) (hmay : mayB c = false) :
    Calls Tryd.prog 41 #[(.agg #[.int .i8 c.st, .int .i64 c.pid, .int .i64 c.ep, .int .i64 c.tm, .int .i64 c.th, .slice A1 c.ps.length c1, .slice D1 c.qs.length e1, .int .i64 c.ag]), .int .i64 q] w (MvP c A1 D1 (addC c q) (addE c q) w) := by

  have HE := Lib.hid (show addE c q = 2 by unfold addE; rw [chk_no hmay])
  have HC := Lib.hid (show addC c q = Co0 by unfold addC; rw [HE.out, if_neg (by decide)])

  obtain ⟨W0, hW0⟩ : ∃ W0, W0 = (w.alloc (.cells #[.int .i8 c.st, .int .i64 c.pid, .int .i64 c.ep, .int .i64 c.tm, .int .i64 c.th, .slice A1 c.ps.length c1, .slice D1 c.qs.length e1, .int .i64 c.ag] 26)).alloc (.cells #[.int .i8 0, .int .i64 0, .int .i64 0, .int .i64 0, .int .i64 0, .slice none 0 0, .slice none 0 0, .int .i64 0] 26) := ⟨_, rfl⟩
  have s0 : W0.heap.size = w.heap.size + 1 + 1 := by rw [hW0]; simp
  have B0 : Below w.heap.size w W0 := by rw [hW0]; exact bal (bal (Below.refl _ _) _) _
  have K1 : Blk W0 w.heap.size 26 #[.int .i8 c.st, .int .i64 c.pid, .int .i64 c.ep, .int .i64 c.tm, .int .i64 c.th, .slice A1 c.ps.length c1, .slice D1 c.qs.length e1, .int .i64 c.ag] := by rw [hW0]; exact (Blk.new w 26 #[.int .i8 c.st, .int .i64 c.pid, .int .i64 c.ep, .int .i64 c.tm, .int .i64 c.th, .slice A1 c.ps.length c1, .slice D1 c.qs.length e1, .int .i64 c.ag]).alloc _
  have K3 : Blk W0 (w.heap.size + 1) 26 #[.int .i8 0, .int .i64 0, .int .i64 0, .int .i64 0, .int .i64 0, .slice none 0 0, .slice none 0 0, .int .i64 0] := by rw [hW0]; exact bk_new _ 26 #[.int .i8 0, .int .i64 0, .int .i64 0, .int .i64 0, .int .i64 0, .slice none 0 0, .slice none 0 0, .int .i64 0] (by simp)
  have HW := Lib.hid hW0
  have HS := Lib.hid s0
  have HB := Lib.hid B0
  have HK1 := Lib.hid K1
  have HK3 := Lib.hid K3
  have H1 := Lib.hid h1
  have MY := Lib.hid (rMay_any c A1 D1 c1 e1 w.heap.size W0 (h1.below B0) B0.size h8 h9)
  rw [hmay] at MY
  have L0 := bk_load (P := Tryd.prog) 8 K1 rfl
  clear hW0 s0 B0 K1 K3 h1 h8 h9 hmay 
  go_enter Tryd.func41, Tryd.ntmps41
  go_upto_region 1 with (fail)
  rw [← HW.out]
  go_wp2_with fail
  refine MY.out.mono ?_
  rintro e w1 ⟨rfl, b1⟩
  have B1 := Lib.hid (show Below W0.heap.size W0 w1 from b1)
  have kx := HK1.out.below b1 (by have := HS.out; omega)
  have x0 := kx.cell 0
  have x1 := kx.cell 1
  have x2 := kx.cell 2
  have x3 := kx.cell 3
  have x4 := kx.cell 4
  have x5 := kx.cell 5
  have x6 := kx.cell 6
  have L1 := bk_load (P := Tryd.prog) 8 kx rfl
  clear L0 b1 kx
  obtain ⟨W9, st, kk, fb, fh, fs⟩ := bk_store (P := Tryd.prog) (ty := 26) (cs := #[.int .i8 0, .int .i64 0, .int .i64 0, .int .i64 0, .int .i64 0, .slice none 0 0, .slice none 0 0, .int .i64 0]) 8 (HK3.out.below B1.out (by have := HS.out; omega)) infoCo rfl rfl (by simp [Value.oneCell'])
  have BB := Lib.hid (fb w.heap.size w (by omega) (HB.out.trans (B1.out.mono HB.out.size)))
  have KK := Lib.hid kk
  clear kk fb fh fs
  go_wp2_with fail
  refine bodyPost_ret (v := .tuple #[.agg #[.int .i8 0, .int .i64 0, .int .i64 0, .int .i64 0, .int .i64 0, .slice none 0 0, .slice none 0 0, .int .i64 0], .int .i64 2]) (radd_ret Co0 none none 0 0 _ _ (w.heap.size + 1) _ rfl rfl KK.out) rfl ?_
  rw [HE.out, HC.out]
  exact ⟨none, none, 0, 0, rfl, ⟨Reads.none_, Reads.none_, Nat.zero_le _, Nat.zero_le _⟩, BB.out, fun b hb _ _ => ⟨offB_none', offB_none'⟩⟩
set_option maxRecDepth 100000 in
set_option maxHeartbeats 2000000 in
theorem radd_b (c : Co) (A1 D1 : Option Addr) (c1 e1 : Nat) (q : Int) (w : World) (h1 : CoR w w.heap.size c A1 D1) (h8 : -128 ≤ c.st) (h9 : c.st ≤ 127) (hmay : mayB c = true) (kp : partB q = false) :
    Calls Tryd.prog 41 #[(.agg #[.int .i8 c.st, .int .i64 c.pid, .int .i64 c.ep, .int .i64 c.tm, .int .i64 c.th, .slice A1 c.ps.length c1, .slice D1 c.qs.length e1, .int .i64 c.ag]), .int .i64 q] w (MvP c A1 D1 (addC c q) (addE c q) w) := by

  have HE := Lib.hid (show addE c q = 2 by unfold addE chkE; rw [if_pos (.inl kp)])
  have HC := Lib.hid (show addC c q = Co0 by unfold addC; rw [HE.out, if_neg (by decide)])
  have i1 : inB q 0 2 = false := by unfold inB; unfold partB at kp; rw [Bool.and_eq_false_iff, decide_eq_false_iff_not, decide_eq_false_iff_not] at kp; rw [Bool.and_eq_false_iff, decide_eq_false_iff_not, decide_eq_false_iff_not]; omega
  obtain ⟨W0, hW0⟩ : ∃ W0, W0 = (w.alloc (.cells #[.int .i8 c.st, .int .i64 c.pid, .int .i64 c.ep, .int .i64 c.tm, .int .i64 c.th, .slice A1 c.ps.length c1, .slice D1 c.qs.length e1, .int .i64 c.ag] 26)).alloc (.cells #[.int .i8 0, .int .i64 0, .int .i64 0, .int .i64 0, .int .i64 0, .slice none 0 0, .slice none 0 0, .int .i64 0] 26) := ⟨_, rfl⟩
  have s0 : W0.heap.size = w.heap.size + 1 + 1 := by rw [hW0]; simp
  have B0 : Below w.heap.size w W0 := by rw [hW0]; exact bal (bal (Below.refl _ _) _) _
  have K1 : Blk W0 w.heap.size 26 #[.int .i8 c.st, .int .i64 c.pid, .int .i64 c.ep, .int .i64 c.tm, .int .i64 c.th, .slice A1 c.ps.length c1, .slice D1 c.qs.length e1, .int .i64 c.ag] := by rw [hW0]; exact (Blk.new w 26 #[.int .i8 c.st, .int .i64 c.pid, .int .i64 c.ep, .int .i64 c.tm, .int .i64 c.th, .slice A1 c.ps.length c1, .slice D1 c.qs.length e1, .int .i64 c.ag]).alloc _
  have K3 : Blk W0 (w.heap.size + 1) 26 #[.int .i8 0, .int .i64 0, .int .i64 0, .int .i64 0, .int .i64 0, .slice none 0 0, .slice none 0 0, .int .i64 0] := by rw [hW0]; exact bk_new _ 26 #[.int .i8 0, .int .i64 0, .int .i64 0, .int .i64 0, .int .i64 0, .slice none 0 0, .slice none 0 0, .int .i64 0] (by simp)
  have HW := Lib.hid hW0
  have HS := Lib.hid s0
  have HB := Lib.hid B0
  have HK1 := Lib.hid K1
  have HK3 := Lib.hid K3
  have H1 := Lib.hid h1
  have MY := Lib.hid (rMay_any c A1 D1 c1 e1 w.heap.size W0 (h1.below B0) B0.size h8 h9)
  rw [hmay] at MY
  have L0 := bk_load (P := Tryd.prog) 8 K1 rfl
  clear hW0 s0 B0 K1 K3 h1 h8 h9 hmay kp
  go_enter Tryd.func41, Tryd.ntmps41
  go_upto_region 1 with (fail)
  rw [← HW.out]
  go_wp2_with fail
  refine MY.out.mono ?_
  rintro e w1 ⟨rfl, b1⟩
  have B1 := Lib.hid (show Below W0.heap.size W0 w1 from b1)
  have kx := HK1.out.below b1 (by have := HS.out; omega)
  have x0 := kx.cell 0
  have x1 := kx.cell 1
  have x2 := kx.cell 2
  have x3 := kx.cell 3
  have x4 := kx.cell 4
  have x5 := kx.cell 5
  have x6 := kx.cell 6
  have L1 := bk_load (P := Tryd.prog) 8 kx rfl
  clear L0 b1 kx
  go_wp2_with fail
  refine (in_any _ _ _ _).mono ?_
  rintro e w9 ⟨rfl, rfl⟩

  obtain ⟨W9, st, kk, fb, fh, fs⟩ := bk_store (P := Tryd.prog) (ty := 26) (cs := #[.int .i8 0, .int .i64 0, .int .i64 0, .int .i64 0, .int .i64 0, .slice none 0 0, .slice none 0 0, .int .i64 0]) 8 (HK3.out.below B1.out (by have := HS.out; omega)) infoCo rfl rfl (by simp [Value.oneCell'])
  have BB := Lib.hid (fb w.heap.size w (by omega) (HB.out.trans (B1.out.mono HB.out.size)))
  have KK := Lib.hid kk
  clear kk fb fh fs
  go_wp2_with fail
  refine bodyPost_ret (v := .tuple #[.agg #[.int .i8 0, .int .i64 0, .int .i64 0, .int .i64 0, .int .i64 0, .slice none 0 0, .slice none 0 0, .int .i64 0], .int .i64 2]) (radd_ret Co0 none none 0 0 _ _ (w.heap.size + 1) _ rfl rfl KK.out) rfl ?_
  rw [HE.out, HC.out]
  exact ⟨none, none, 0, 0, rfl, ⟨Reads.none_, Reads.none_, Nat.zero_le _, Nat.zero_le _⟩, BB.out, fun b hb _ _ => ⟨offB_none', offB_none'⟩⟩
set_option maxRecDepth 100000 in
set_option maxHeartbeats 2000000 in
theorem radd_c (c : Co) (A1 D1 : Option Addr) (c1 e1 : Nat) (q : Int) (w : World) (h1 : CoR w w.heap.size c A1 D1) (h8 : -128 ≤ c.st) (h9 : c.st ≤ 127) (hmay : mayB c = true) (kp : partB q = true) (ki : idlB c = false) (k2 : ¬ c.st = 2) :
    Calls Tryd.prog 41 #[(.agg #[.int .i8 c.st, .int .i64 c.pid, .int .i64 c.ep, .int .i64 c.tm, .int .i64 c.th, .slice A1 c.ps.length c1, .slice D1 c.qs.length e1, .int .i64 c.ag]), .int .i64 q] w (MvP c A1 D1 (addC c q) (addE c q) w) := by

  have HE := Lib.hid (show addE c q = 180 by unfold addE; rw [kp, chk_of hmay, begins_of hmay]; by_cases h0 : c.st = 0 <;> simp [h0, ki, k2])
  have HC := Lib.hid (show addC c q = Co0 by unfold addC; rw [HE.out, if_neg (by decide)])
  have i1 : inB q 0 2 = true := by unfold inB; unfold partB at kp; rw [Bool.and_eq_true, decide_eq_true_eq, decide_eq_true_eq] at kp; rw [Bool.and_eq_true, decide_eq_true_eq, decide_eq_true_eq]; omega
  have ID := Lib.hid (fun W => idle_any c A1 D1 c1 e1 W)
  rw [ki] at ID
  have z2 : (c.st != 2) = true := by simpa using k2
  obtain ⟨W0, hW0⟩ : ∃ W0, W0 = (w.alloc (.cells #[.int .i8 c.st, .int .i64 c.pid, .int .i64 c.ep, .int .i64 c.tm, .int .i64 c.th, .slice A1 c.ps.length c1, .slice D1 c.qs.length e1, .int .i64 c.ag] 26)).alloc (.cells #[.int .i8 0, .int .i64 0, .int .i64 0, .int .i64 0, .int .i64 0, .slice none 0 0, .slice none 0 0, .int .i64 0] 26) := ⟨_, rfl⟩
  have s0 : W0.heap.size = w.heap.size + 1 + 1 := by rw [hW0]; simp
  have B0 : Below w.heap.size w W0 := by rw [hW0]; exact bal (bal (Below.refl _ _) _) _
  have K1 : Blk W0 w.heap.size 26 #[.int .i8 c.st, .int .i64 c.pid, .int .i64 c.ep, .int .i64 c.tm, .int .i64 c.th, .slice A1 c.ps.length c1, .slice D1 c.qs.length e1, .int .i64 c.ag] := by rw [hW0]; exact (Blk.new w 26 #[.int .i8 c.st, .int .i64 c.pid, .int .i64 c.ep, .int .i64 c.tm, .int .i64 c.th, .slice A1 c.ps.length c1, .slice D1 c.qs.length e1, .int .i64 c.ag]).alloc _
  have K3 : Blk W0 (w.heap.size + 1) 26 #[.int .i8 0, .int .i64 0, .int .i64 0, .int .i64 0, .int .i64 0, .slice none 0 0, .slice none 0 0, .int .i64 0] := by rw [hW0]; exact bk_new _ 26 #[.int .i8 0, .int .i64 0, .int .i64 0, .int .i64 0, .int .i64 0, .slice none 0 0, .slice none 0 0, .int .i64 0] (by simp)
  have HW := Lib.hid hW0
  have HS := Lib.hid s0
  have HB := Lib.hid B0
  have HK1 := Lib.hid K1
  have HK3 := Lib.hid K3
  have H1 := Lib.hid h1
  have MY := Lib.hid (rMay_any c A1 D1 c1 e1 w.heap.size W0 (h1.below B0) B0.size h8 h9)
  rw [hmay] at MY
  have L0 := bk_load (P := Tryd.prog) 8 K1 rfl
  clear hW0 s0 B0 K1 K3 h1 h8 h9 hmay kp ki k2
  go_enter Tryd.func41, Tryd.ntmps41
  go_upto_region 1 with (fail)
  rw [← HW.out]
  go_wp2_with fail
  refine MY.out.mono ?_
  rintro e w1 ⟨rfl, b1⟩
  have B1 := Lib.hid (show Below W0.heap.size W0 w1 from b1)
  have kx := HK1.out.below b1 (by have := HS.out; omega)
  have x0 := kx.cell 0
  have x1 := kx.cell 1
  have x2 := kx.cell 2
  have x3 := kx.cell 3
  have x4 := kx.cell 4
  have x5 := kx.cell 5
  have x6 := kx.cell 6
  have L1 := bk_load (P := Tryd.prog) 8 kx rfl
  clear L0 b1 kx
  go_wp2_with fail
  refine (in_any _ _ _ _).mono ?_
  rintro e w9 ⟨rfl, rfl⟩
  go_wp2_with fail
  refine (ID.out _).mono ?_
  rintro e w2 ⟨rfl, b2⟩
  have B2 := Lib.hid (B1.out.trans (b2.mono B1.out.size))
  have kx := HK1.out.below B2.out (by have := HS.out; omega)
  clear x0 x1 x2 x3 x4 x5 x6 L1
  have x0 := kx.cell 0
  have x1 := kx.cell 1
  have x2 := kx.cell 2
  have x3 := kx.cell 3
  have x4 := kx.cell 4
  have x5 := kx.cell 5
  have x6 := kx.cell 6
  have L1 := bk_load (P := Tryd.prog) 8 kx rfl
  clear b2 kx

  obtain ⟨W9, st, kk, fb, fh, fs⟩ := bk_store (P := Tryd.prog) (ty := 26) (cs := #[.int .i8 0, .int .i64 0, .int .i64 0, .int .i64 0, .int .i64 0, .slice none 0 0, .slice none 0 0, .int .i64 0]) 8 (HK3.out.below B2.out (by have := HS.out; omega)) infoCo rfl rfl (by simp [Value.oneCell'])
  have BB := Lib.hid (fb w.heap.size w (by omega) (HB.out.trans (B2.out.mono HB.out.size)))
  have KK := Lib.hid kk
  clear kk fb fh fs
  go_wp2_with fail
  refine bodyPost_ret (v := .tuple #[.agg #[.int .i8 0, .int .i64 0, .int .i64 0, .int .i64 0, .int .i64 0, .slice none 0 0, .slice none 0 0, .int .i64 0], .int .i64 180]) (radd_ret Co0 none none 0 0 _ _ (w.heap.size + 1) _ rfl rfl KK.out) rfl ?_
  rw [HE.out, HC.out]
  exact ⟨none, none, 0, 0, rfl, ⟨Reads.none_, Reads.none_, Nat.zero_le _, Nat.zero_le _⟩, BB.out, fun b hb _ _ => ⟨offB_none', offB_none'⟩⟩
set_option maxRecDepth 100000 in
set_option maxHeartbeats 2000000 in
theorem radd_di (c : Co) (A1 D1 : Option Addr) (c1 e1 : Nat) (q : Int) (w : World) (h1 : CoR w w.heap.size c A1 D1) (h8 : -128 ≤ c.st) (h9 : c.st ≤ 127) (hmay : mayB c = true) (kp : partB q = true) (k3 : idlB c = true ∨ c.st = 2) (k4 : idlB c = true) :
    Calls Tryd.prog 41 #[(.agg #[.int .i8 c.st, .int .i64 c.pid, .int .i64 c.ep, .int .i64 c.tm, .int .i64 c.th, .slice A1 c.ps.length c1, .slice D1 c.qs.length e1, .int .i64 c.ag]), .int .i64 q] w (MvP c A1 D1 (addC c q) (addE c q) w) := by

  have HE := Lib.hid (show addE c q = 0 by unfold addE; rw [kp, chk_of hmay, begins_of hmay, if_neg (show ¬ c.st = 0 by rcases k3 with h | h; have := (idl_iff c).1 h; omega; omega)]; rcases k3 with h | h; by_cases h2 : c.st = 2; simp [h2]; simp [h2, h]; simp [h])
  have HC := Lib.hid (show addC c q = { c with st := 2, ps := keepF (fun y => cmpI y q) c.ps q } by unfold addC; rw [HE.out, if_pos rfl])
  have i1 : inB q 0 2 = true := by unfold inB; unfold partB at kp; rw [Bool.and_eq_true, decide_eq_true_eq, decide_eq_true_eq] at kp; rw [Bool.and_eq_true, decide_eq_true_eq, decide_eq_true_eq]; omega
  have ID := Lib.hid (fun W => idle_any c A1 D1 c1 e1 W)
  rw [k4] at ID
  have PW := Lib.hid (parts_iff.1 (parts_of_may hmay)).1
  have RH := Lib.hid (fun W (hb : Below w.heap.size w W) => rHas_any { c with st := 2 } A1 D1 c1 e1 q w.heap.size W (h1.below hb) hb.size)
  have hps0 := h1.2.2.1
  have HPS := Lib.hid (may_small hmay).1
  obtain ⟨W0, hW0⟩ : ∃ W0, W0 = (w.alloc (.cells #[.int .i8 c.st, .int .i64 c.pid, .int .i64 c.ep, .int .i64 c.tm, .int .i64 c.th, .slice A1 c.ps.length c1, .slice D1 c.qs.length e1, .int .i64 c.ag] 26)).alloc (.cells #[.int .i8 0, .int .i64 0, .int .i64 0, .int .i64 0, .int .i64 0, .slice none 0 0, .slice none 0 0, .int .i64 0] 26) := ⟨_, rfl⟩
  have s0 : W0.heap.size = w.heap.size + 1 + 1 := by rw [hW0]; simp
  have B0 : Below w.heap.size w W0 := by rw [hW0]; exact bal (bal (Below.refl _ _) _) _
  have K1 : Blk W0 w.heap.size 26 #[.int .i8 c.st, .int .i64 c.pid, .int .i64 c.ep, .int .i64 c.tm, .int .i64 c.th, .slice A1 c.ps.length c1, .slice D1 c.qs.length e1, .int .i64 c.ag] := by rw [hW0]; exact (Blk.new w 26 #[.int .i8 c.st, .int .i64 c.pid, .int .i64 c.ep, .int .i64 c.tm, .int .i64 c.th, .slice A1 c.ps.length c1, .slice D1 c.qs.length e1, .int .i64 c.ag]).alloc _
  have K3 : Blk W0 (w.heap.size + 1) 26 #[.int .i8 0, .int .i64 0, .int .i64 0, .int .i64 0, .int .i64 0, .slice none 0 0, .slice none 0 0, .int .i64 0] := by rw [hW0]; exact bk_new _ 26 #[.int .i8 0, .int .i64 0, .int .i64 0, .int .i64 0, .int .i64 0, .slice none 0 0, .slice none 0 0, .int .i64 0] (by simp)
  have HW := Lib.hid hW0
  have HS := Lib.hid s0
  have HB := Lib.hid B0
  have HK1 := Lib.hid K1
  have HK3 := Lib.hid K3
  have H1 := Lib.hid h1
  have MY := Lib.hid (rMay_any c A1 D1 c1 e1 w.heap.size W0 (h1.below B0) B0.size h8 h9)
  rw [hmay] at MY
  have L0 := bk_load (P := Tryd.prog) 8 K1 rfl
  clear hW0 s0 B0 K1 K3 h1 h8 h9 hmay kp k3 k4
  go_enter Tryd.func41, Tryd.ntmps41
  go_upto_region 1 with (fail)
  rw [← HW.out]
  go_wp2_with fail
  refine MY.out.mono ?_
  rintro e w1 ⟨rfl, b1⟩
  have B1 := Lib.hid (show Below W0.heap.size W0 w1 from b1)
  have kx := HK1.out.below b1 (by have := HS.out; omega)
  have x0 := kx.cell 0
  have x1 := kx.cell 1
  have x2 := kx.cell 2
  have x3 := kx.cell 3
  have x4 := kx.cell 4
  have x5 := kx.cell 5
  have x6 := kx.cell 6
  have L1 := bk_load (P := Tryd.prog) 8 kx rfl
  clear L0 b1 kx
  go_wp2_with fail
  refine (in_any _ _ _ _).mono ?_
  rintro e w9 ⟨rfl, rfl⟩
  go_wp2_with fail
  refine (ID.out _).mono ?_
  rintro e w2 ⟨rfl, b2⟩
  have B2 := Lib.hid (B1.out.trans (b2.mono B1.out.size))
  have kx := HK1.out.below B2.out (by have := HS.out; omega)
  clear x0 x1 x2 x3 x4 x5 x6 L1
  have x0 := kx.cell 0
  have x1 := kx.cell 1
  have x2 := kx.cell 2
  have x3 := kx.cell 3
  have x4 := kx.cell 4
  have x5 := kx.cell 5
  have x6 := kx.cell 6
  have L1 := bk_load (P := Tryd.prog) 8 kx rfl
  clear b2 kx

  obtain ⟨i0, hi0, hz0, hz1, hz2⟩ := info_parts infoI
  have kx := HK1.out.below B2.out (by have := HS.out; omega)
  have st5 := store_i8 2 (kx.cell 0) (kx.frozen 0)
  have k5 : Blk (w2.setCell ⟨w.heap.size, 0, none⟩ (.int .i8 2)) w.heap.size 26 #[.int .i8 2, .int .i64 c.pid, .int .i64 c.ep, .int .i64 c.tm, .int .i64 c.th, .slice A1 c.ps.length c1, .slice D1 c.qs.length e1, .int .i64 c.ag] := kx.set_ 0 (.int .i8 2)
  have k35 := (HK3.out.below B2.out (by have := HS.out; omega)).far (p := ⟨w.heap.size, 0, none⟩) (by simp) (.int .i8 2)
  have b5 := (HB.out.trans (B2.out.mono HB.out.size)).setCell (p := ⟨w.heap.size, 0, none⟩) (Nat.le_refl _) (.int .i8 2)
  have M5 := Lib.hid (show MkS w 2 [(26, #[.int .i8 2, .int .i64 c.pid, .int .i64 c.ep, .int .i64 c.tm, .int .i64 c.th, .slice A1 c.ps.length c1, .slice D1 c.qs.length e1, .int .i64 c.ag]), (26, #[.int .i8 0, .int .i64 0, .int .i64 0, .int .i64 0, .int .i64 0, .slice none 0 0, .slice none 0 0, .int .i64 0])] (w2.setCell ⟨w.heap.size, 0, none⟩ (.int .i8 2)) from ⟨fun j t a hj => by
    match j, hj with
    | 0, hj => simp at hj; obtain ⟨rfl, rfl⟩ := hj; exact k5
    | 1, hj => simp at hj; obtain ⟨rfl, rfl⟩ := hj; exact k35, b5, by have := k35.lt; omega⟩)
  have L5 := bk_load (P := Tryd.prog) 8 k5 rfl
  clear kx k5 k35 b5
  go_upto_region 7 with (fail)
  clear st5 x0 x1 x2 x3 x4 x5 x6 L1
  generalize w2.setCell ⟨w.heap.size, 0, none⟩ (.int .i8 2) = W5 at *
  go_wp2_with fail
  refine (RH.out W5 M5.out.bel).mono ?_
  rintro e w6 ⟨rfl, b6⟩
  have M6 := Lib.hid (M5.out.below rfl b6)
  obtain ⟨d0, hd0⟩ : ∃ d, d = decide (q ∈ c.ps) := ⟨_, rfl⟩
  have HR := Lib.hid (show goL q c.ps d0 = keepF (fun y => cmpI y q) c.ps q by rw [hd0]; exact goL_keep q c.ps PW.out)
  rw [show (decide (q ∈ ({ c with st := 2 } : Co).ps)) = d0 from hd0.symm]
  clear b6 L5 hd0 hps0
  go_wp2_with fail
  go_loopg [6, 7, 8] c.ps.length (fun mm y1 y2 y3 wr => ∃ (k : Nat) (d : Bool) (ou : List Int) (A : Option Addr) (cc : Nat), k ≤ c.ps.length ∧ y3 = .int .i64 k ∧ y2 = .bool d ∧ y1 = .slice A ou.length cc ∧ mm = c.ps.length - k ∧ ou.length ≤ k + (k + 1) ∧ ou ++ goL q (c.ps.drop k) d = keepF (fun y => cmpI y q) c.ps q ∧ wr.ownsRow (w.heap.size + 2) 3 1 (.slice A ou.length cc) ou.length (cellsI .i64 ou) ∧ MkS w 2 [(26, #[.int .i8 2, .int .i64 c.pid, .int .i64 c.ep, .int .i64 c.tm, .int .i64 c.th, .slice A1 c.ps.length c1, .slice D1 c.qs.length e1, .int .i64 c.ag]), (26, #[.int .i8 0, .int .i64 0, .int .i64 0, .int .i64 0, .int .i64 0, .slice none 0 0, .slice none 0 0, .int .i64 0])] wr)
  case atStart => exact ⟨0, d0, [], none, 0, Nat.zero_le _, rfl, rfl, rfl, by omega, by simp, by rw [List.nil_append, List.drop_zero]; exact HR.out, World.ownsRow_nil _ _ _ _, M6.out⟩
  case round =>
    obtain ⟨k, d, ou, A, cc, hk, rfl, rfl, rfl, hmm, hou, hres, hown, hms⟩ := hrel
    have HM := Lib.hid hmm
    have HRS := Lib.hid hres
    have OW := Lib.hid hown
    have MS := Lib.hid hms
    have x5 := hms.b0.cell 5
    have hl3 : c.ps.length ≤ 3 := HPS.out
    have hle : ou.length ≤ 7 := by omega
    clear hmm hres hown hms
    by_cases hlt : k < c.ps.length
    · have d1 : decide ((k : Int) < (c.ps.length : Int)) = true := by simp; omega
      obtain ⟨z, hz⟩ : ∃ z, c.ps[k]? = some z := ⟨_, List.getElem?_eq_getElem hlt⟩
      have hdz : c.ps.drop k = z :: c.ps.drop (k + 1) := by
        rw [List.drop_eq_getElem_cons hlt]
        congr 1
        rw [List.getElem?_eq_getElem hlt] at hz
        exact Option.some.inj hz
      obtain ⟨b1, o1, rfl, hb1, hc1⟩ := H1.out.1.plain (by omega)
      have CE := Lib.hid (fun W (hb : Below w.heap.size w W) => show W.cell? ⟨b1, o1 + k, none⟩ = some (.int .i64 z) from by rw [hb.cell (by exact hb1)]; exact hc1 k _ (by rw [getElem?_cellsI, hz]; rfl))
      have g1 := CE.out _ MS.out.bel
      have i1' : (0 : Int) ≤ (k : Int) := by omega
      have i2' : (k : Int) < (c.ps.length : Int) := by omega
      have HDZ := Lib.hid hdz
      clear hz hdz hc1
      by_cases hins : d = false ∧ q < z
      · obtain ⟨rfl, hqz⟩ := hins
        have t1 : decide (q < z) = true := decide_eq_true hqz
        have HQ := Lib.hid hqz
        clear hqz
        go_wp2_with (first | (at_builtin; refine wpList_append_any _ rfl (.tmp 49) (.tmp 51) 23 rfl (w.heap.size + 2) 3 i0 (.int .i64 0) 1 8 Tryd.underlying23 hi0 hz0 hz1 hz2 rfl (by decide) (.slice A ou.length cc) ou.length (cellsI .i64 ou) (by rfl) (OW.out.alloc _) (wr.heap.size + 1) (some ⟨wr.heap.size, 0, none⟩) 1 1 (cellsI .i64 [q]) (by rfl) (reads_newI wr 3 [q]) (cellsI_one _) (by unfold maxLen; omega) (by omega) (by rw [World.size_alloc]; have := MS.out.top; omega) ?_; intro v7 W7 hown7 hg7 hat7; have MS7 := Lib.hid ((MS.out.alloc rfl _).grown rfl hg7 (fun y hy => (OW.out.lt y hy).1)); obtain ⟨ou7, hl7⟩ : ∃ l, l = ou ++ [q] := ⟨_, rfl⟩; have hn7 : ou.length + 1 = ou7.length := (by simp [hl7]); have hb7 : ou7.length ≤ ou.length + 1 := (by omega); rw [hn7, show cellsI .i64 ou ++ cellsI .i64 [q] = cellsI .i64 ou7 by simp [hl7, cellsI]] at hown7; obtain ⟨A7, c7, rfl, hc7⟩ := own_slice hown7; have OW7 := Lib.hid hown7; have HL7 := Lib.hid hl7; have HN7 := Lib.hid hn7; clear hown7 hg7 hat7 hl7 hn7; have x5 := MS7.out.b0.cell 5; have g1 := CE.out _ MS7.out.bel) | (at_builtin; refine wpList_append_any _ rfl (.tmp 53) (.tmp 59) 23 rfl (w.heap.size + 2) 3 i0 (.int .i64 0) 1 8 Tryd.underlying23 hi0 hz0 hz1 hz2 rfl (by decide) (.slice A7 ou7.length c7) ou7.length (cellsI .i64 ou7) (by rfl) (OW7.out.alloc _) (W7.heap.size + 1) (some ⟨W7.heap.size, 0, none⟩) 1 1 (cellsI .i64 [z]) (by rfl) (reads_newI W7 3 [z]) (cellsI_one _) (by unfold maxLen; omega) (by omega) (by rw [World.size_alloc]; have := MS7.out.top; omega) ?_; intro v4 W4 hown4 hg4 hat4; have MS4 := Lib.hid ((MS7.out.alloc rfl _).grown rfl hg4 (fun y hy => (OW7.out.lt y hy).1)); obtain ⟨ou4, hl4⟩ : ∃ l, l = ou7 ++ [z] := ⟨_, rfl⟩; have hn4 : ou7.length + 1 = ou4.length := (by simp [hl4]); have hb4 : ou4.length ≤ ou7.length + 1 := (by omega); rw [hn4, show cellsI .i64 ou7 ++ cellsI .i64 [z] = cellsI .i64 ou4 by simp [hl4, cellsI]] at hown4; obtain ⟨A4, c4, rfl, hc4⟩ := own_slice hown4; have OW4 := Lib.hid hown4; have HL4 := Lib.hid hl4; have HN4 := Lib.hid hn4; clear hown4 hg4 hat4 hl4 hn4))
        go_roundg (gk - 1)
        case measure => have := HM.out; omega
        case rel =>
          refine ⟨k + 1, true, ou4, A4, c4, by omega, by go_num, rfl, rfl, by have := HM.out; omega, by omega, ?_, OW4.out, MS4.out⟩
          have hgo : goL q (z :: c.ps.drop (k + 1)) false = q :: z :: goL q (c.ps.drop (k + 1)) true := by
            conv => lhs; unfold goL
            rw [if_pos ⟨rfl, HQ.out⟩]
          rw [← HRS.out, HDZ.out, hgo, HL4.out, HL7.out]
          simp
      · have hg : goL q (z :: c.ps.drop (k + 1)) d = z :: goL q (c.ps.drop (k + 1)) d := by
          conv => lhs; unfold goL
          rw [if_neg hins]
        have HGO := Lib.hid hg
        clear hg
        cases d
        · have t1 : decide (q < z) = false := decide_eq_false (fun h => hins ⟨rfl, h⟩)
          clear hins
          go_wp2_with (at_builtin; refine wpList_append_any _ rfl (.tmp 53) (.tmp 59) 23 rfl (w.heap.size + 2) 3 i0 (.int .i64 0) 1 8 Tryd.underlying23 hi0 hz0 hz1 hz2 rfl (by decide) (.slice A ou.length cc) ou.length (cellsI .i64 ou) (by rfl) (OW.out.alloc _) (wr.heap.size + 1) (some ⟨wr.heap.size, 0, none⟩) 1 1 (cellsI .i64 [z]) (by rfl) (reads_newI wr 3 [z]) (cellsI_one _) (by unfold maxLen; omega) (by omega) (by rw [World.size_alloc]; have := MS.out.top; omega) ?_; intro v4 W4 hown4 hg4 hat4; have MS4 := Lib.hid ((MS.out.alloc rfl _).grown rfl hg4 (fun y hy => (OW.out.lt y hy).1)); obtain ⟨ou4, hl4⟩ : ∃ l, l = ou ++ [z] := ⟨_, rfl⟩; have hn4 : ou.length + 1 = ou4.length := (by simp [hl4]); have hb4 : ou4.length ≤ ou.length + 1 := (by omega); rw [hn4, show cellsI .i64 ou ++ cellsI .i64 [z] = cellsI .i64 ou4 by simp [hl4, cellsI]] at hown4; obtain ⟨A4, c4, rfl, hc4⟩ := own_slice hown4; have OW4 := Lib.hid hown4; have HL4 := Lib.hid hl4; have HN4 := Lib.hid hn4; clear hown4 hg4 hat4 hl4 hn4)
          go_roundg (gk - 1)
          case measure => have := HM.out; omega
          case rel =>
            refine ⟨k + 1, false, ou4, A4, c4, by omega, by go_num, rfl, rfl, by have := HM.out; omega, by omega, ?_, OW4.out, MS4.out⟩
            rw [← HRS.out, HDZ.out, HGO.out, HL4.out]
            simp
        · clear hins
          go_wp2_with (at_builtin; refine wpList_append_any _ rfl (.tmp 53) (.tmp 59) 23 rfl (w.heap.size + 2) 3 i0 (.int .i64 0) 1 8 Tryd.underlying23 hi0 hz0 hz1 hz2 rfl (by decide) (.slice A ou.length cc) ou.length (cellsI .i64 ou) (by rfl) (OW.out.alloc _) (wr.heap.size + 1) (some ⟨wr.heap.size, 0, none⟩) 1 1 (cellsI .i64 [z]) (by rfl) (reads_newI wr 3 [z]) (cellsI_one _) (by unfold maxLen; omega) (by omega) (by rw [World.size_alloc]; have := MS.out.top; omega) ?_; intro v4 W4 hown4 hg4 hat4; have MS4 := Lib.hid ((MS.out.alloc rfl _).grown rfl hg4 (fun y hy => (OW.out.lt y hy).1)); obtain ⟨ou4, hl4⟩ : ∃ l, l = ou ++ [z] := ⟨_, rfl⟩; have hn4 : ou.length + 1 = ou4.length := (by simp [hl4]); have hb4 : ou4.length ≤ ou.length + 1 := (by omega); rw [hn4, show cellsI .i64 ou ++ cellsI .i64 [z] = cellsI .i64 ou4 by simp [hl4, cellsI]] at hown4; obtain ⟨A4, c4, rfl, hc4⟩ := own_slice hown4; have OW4 := Lib.hid hown4; have HL4 := Lib.hid hl4; have HN4 := Lib.hid hn4; clear hown4 hg4 hat4 hl4 hn4)
          go_roundg (gk - 1)
          case measure => have := HM.out; omega
          case rel =>
            refine ⟨k + 1, true, ou4, A4, c4, by omega, by go_num, rfl, rfl, by have := HM.out; omega, by omega, ?_, OW4.out, MS4.out⟩
            rw [← HRS.out, HDZ.out, HGO.out, HL4.out]
            simp
    · obtain rfl : k = c.ps.length := by omega
      have d1 : decide ((c.ps.length : Int) < (c.ps.length : Int)) = false := by simp
      have hdr : c.ps.drop c.ps.length = [] := List.drop_of_length_le (Nat.le_refl _)
      cases d
      · have HR2 := Lib.hid (show ou ++ [q] = keepF (fun y => cmpI y q) c.ps q by rw [← HRS.out, hdr]; rfl)
        have HLN' := Lib.hid (show (ou ++ [q]).length ≤ 1000 by rw [HR2.out]; have := length_keepF (fun y => cmpI y q) c.ps q; have := HPS.out; omega)
        clear hdr
        go_wp2_with (at_builtin; refine wpList_append_any _ rfl (.tmp 63) (.tmp 65) 23 rfl (w.heap.size + 2) 3 i0 (.int .i64 0) 1 8 Tryd.underlying23 hi0 hz0 hz1 hz2 rfl (by decide) (.slice A ou.length cc) ou.length (cellsI .i64 ou) (by rfl) (OW.out.alloc _) (wr.heap.size + 1) (some ⟨wr.heap.size, 0, none⟩) 1 1 (cellsI .i64 [q]) (by rfl) (reads_newI wr 3 [q]) (cellsI_one _) (by unfold maxLen; omega) (by omega) (by rw [World.size_alloc]; have := MS.out.top; omega) ?_; intro v4 W4 hown4 hg4 hat4; have MS4 := Lib.hid ((MS.out.alloc rfl _).grown rfl hg4 (fun y hy => (OW.out.lt y hy).1)); obtain ⟨ou4, hl4⟩ : ∃ l, l = ou ++ [q] := ⟨_, rfl⟩; have hn4 : ou.length + 1 = ou4.length := (by simp [hl4]); have hb4 : ou4.length ≤ ou.length + 1 := (by omega); rw [hn4, show cellsI .i64 ou ++ cellsI .i64 [q] = cellsI .i64 ou4 by simp [hl4, cellsI]] at hown4; obtain ⟨A4, c4, rfl, hc4⟩ := own_slice hown4; have OW4 := Lib.hid hown4; have HL4 := Lib.hid hl4; have HN4 := Lib.hid hn4; clear hown4 hg4 hat4 hl4 hn4; have kz0 := MS4.out.b0; have st7 := store_slI A4 ou4.length c4 (kz0.cell 5) (kz0.frozen 5); have kz : Blk (W4.setCell ⟨w.heap.size, 5, none⟩ (.slice A4 ou4.length c4)) w.heap.size 26 #[.int .i8 2, .int .i64 c.pid, .int .i64 c.ep, .int .i64 c.tm, .int .i64 c.th, .slice A4 ou4.length c4, .slice D1 c.qs.length e1, .int .i64 c.ag] := kz0.set_ 5 (.slice A4 ou4.length c4); have L7 := bk_load (P := Tryd.prog) 8 kz rfl; have k37 := MS4.out.b1.far (p := ⟨w.heap.size, 5, none⟩) (by simp) (.slice A4 ou4.length c4); have b7 := MS4.out.bel.setCell (p := ⟨w.heap.size, 5, none⟩) (Nat.le_refl _) (.slice A4 ou4.length c4); have o7 := bk_own (w' := W4.setCell ⟨w.heap.size, 5, none⟩ (.slice A4 ou4.length c4)) OW4.out (fun y hy => Below.heap_setCell _ _ _ _ (by have := (OW4.out.lt y hy).1; show y ≠ w.heap.size; omega)); obtain ⟨W9, st9, kk, fb, fh, fs⟩ := bk_store (P := Tryd.prog) (ty := 26) (cs := #[.int .i8 2, .int .i64 c.pid, .int .i64 c.ep, .int .i64 c.tm, .int .i64 c.th, .slice A4 ou4.length c4, .slice D1 c.qs.length e1, .int .i64 c.ag]) 8 k37 infoCo rfl rfl (by simp [Value.oneCell']); have BB := Lib.hid (fb w.heap.size w (by omega) b7); have OO := Lib.hid (bk_own o7 (fun y hy => fh y (by have := (OW4.out.lt y hy).1; omega))); have KK := Lib.hid kk; clear kz0 kz k37 b7 o7 kk fb fh fs)
        have HLN := Lib.hid (show ou4.length ≤ 1000 by rw [HL4.out]; exact HLN'.out)
        rw [← HL4.out] at HR2
        refine bodyPost_ret (v := .tuple #[.agg #[.int .i8 2, .int .i64 c.pid, .int .i64 c.ep, .int .i64 c.tm, .int .i64 c.th, .slice A4 ou4.length c4, .slice D1 c.qs.length e1, .int .i64 c.ag], .int .i64 0]) (radd_ret { c with st := 2, ps := ou4 } A4 D1 c4 e1 0 _ (w.heap.size + 1) _ rfl rfl KK.out) rfl ?_
        rw [HE.out, HC.out, ← HR2.out]
        have rr := H1.out.up BB.out
        have na := newAt_of_own OO.out
        exact ⟨A4, D1, c4, e1, rfl, ⟨Reads.of_own OO.out, rr.2.1, HLN.out, rr.2.2.2⟩, BB.out, fun b hb o1 o2 => ⟨na.off (by omega), o2⟩⟩
      · have HR2 := Lib.hid (show ou = keepF (fun y => cmpI y q) c.ps q by rw [← HRS.out, hdr]; show ou = ou ++ []; simp)
        have HLN := Lib.hid (show ou.length ≤ 1000 by rw [HR2.out]; have := length_keepF (fun y => cmpI y q) c.ps q; have := HPS.out; omega)
        clear hdr
        have kz0 := MS.out.b0
        have st7 := store_slI A ou.length cc (kz0.cell 5) (kz0.frozen 5)
        have kz : Blk (wr.setCell ⟨w.heap.size, 5, none⟩ (.slice A ou.length cc)) w.heap.size 26 #[.int .i8 2, .int .i64 c.pid, .int .i64 c.ep, .int .i64 c.tm, .int .i64 c.th, .slice A ou.length cc, .slice D1 c.qs.length e1, .int .i64 c.ag] := kz0.set_ 5 (.slice A ou.length cc)
        have L7 := bk_load (P := Tryd.prog) 8 kz rfl
        have k37 := MS.out.b1.far (p := ⟨w.heap.size, 5, none⟩) (by simp) (.slice A ou.length cc)
        have b7 := MS.out.bel.setCell (p := ⟨w.heap.size, 5, none⟩) (Nat.le_refl _) (.slice A ou.length cc)
        have o7 := bk_own (w' := wr.setCell ⟨w.heap.size, 5, none⟩ (.slice A ou.length cc)) OW.out (fun y hy => Below.heap_setCell _ _ _ _ (by have := (OW.out.lt y hy).1; show y ≠ w.heap.size; omega))
        obtain ⟨W9, st9, kk, fb, fh, fs⟩ := bk_store (P := Tryd.prog) (ty := 26) (cs := #[.int .i8 2, .int .i64 c.pid, .int .i64 c.ep, .int .i64 c.tm, .int .i64 c.th, .slice A ou.length cc, .slice D1 c.qs.length e1, .int .i64 c.ag]) 8 k37 infoCo rfl rfl (by simp [Value.oneCell'])
        have BB := Lib.hid (fb w.heap.size w (by omega) b7)
        have OO := Lib.hid (bk_own o7 (fun y hy => fh y (by have := (OW.out.lt y hy).1; omega)))
        have KK := Lib.hid kk
        clear kz0 kz k37 b7 o7 kk fb fh fs
        go_wp2_with fail
        refine bodyPost_ret (v := .tuple #[.agg #[.int .i8 2, .int .i64 c.pid, .int .i64 c.ep, .int .i64 c.tm, .int .i64 c.th, .slice A ou.length cc, .slice D1 c.qs.length e1, .int .i64 c.ag], .int .i64 0]) (radd_ret { c with st := 2, ps := ou } A D1 cc e1 0 _ (w.heap.size + 1) _ rfl rfl KK.out) rfl ?_
        rw [HE.out, HC.out, ← HR2.out]
        have rr := H1.out.up BB.out
        have na := newAt_of_own OO.out
        exact ⟨A, D1, cc, e1, rfl, ⟨Reads.of_own OO.out, rr.2.1, HLN.out, rr.2.2.2⟩, BB.out, fun b hb o1 o2 => ⟨na.off (by omega), o2⟩⟩
set_option maxRecDepth 100000 in
set_option maxHeartbeats 2000000 in
theorem radd_dg (c : Co) (A1 D1 : Option Addr) (c1 e1 : Nat) (q : Int) (w : World) (h1 : CoR w w.heap.size c A1 D1) (h8 : -128 ≤ c.st) (h9 : c.st ≤ 127) (hmay : mayB c = true) (kp : partB q = true) (k3 : idlB c = true ∨ c.st = 2) (k4 : idlB c = false) (k6 : c.st = 2) :
    Calls Tryd.prog 41 #[(.agg #[.int .i8 c.st, .int .i64 c.pid, .int .i64 c.ep, .int .i64 c.tm, .int .i64 c.th, .slice A1 c.ps.length c1, .slice D1 c.qs.length e1, .int .i64 c.ag]), .int .i64 q] w (MvP c A1 D1 (addC c q) (addE c q) w) := by

  have HE := Lib.hid (show addE c q = 0 by unfold addE; rw [kp, chk_of hmay, begins_of hmay, if_neg (show ¬ c.st = 0 by rcases k3 with h | h; have := (idl_iff c).1 h; omega; omega)]; rcases k3 with h | h; by_cases h2 : c.st = 2; simp [h2]; simp [h2, h]; simp [h])
  have HC := Lib.hid (show addC c q = { c with st := 2, ps := keepF (fun y => cmpI y q) c.ps q } by unfold addC; rw [HE.out, if_pos rfl])
  have i1 : inB q 0 2 = true := by unfold inB; unfold partB at kp; rw [Bool.and_eq_true, decide_eq_true_eq, decide_eq_true_eq] at kp; rw [Bool.and_eq_true, decide_eq_true_eq, decide_eq_true_eq]; omega
  have ID := Lib.hid (fun W => idle_any c A1 D1 c1 e1 W)
  rw [k4] at ID
  have z2 : (c.st != 2) = false := by rw [k6]; rfl
  have PW := Lib.hid (parts_iff.1 (parts_of_may hmay)).1
  have RH := Lib.hid (fun W (hb : Below w.heap.size w W) => rHas_any { c with st := 2 } A1 D1 c1 e1 q w.heap.size W (h1.below hb) hb.size)
  have hps0 := h1.2.2.1
  have HPS := Lib.hid (may_small hmay).1
  obtain ⟨W0, hW0⟩ : ∃ W0, W0 = (w.alloc (.cells #[.int .i8 c.st, .int .i64 c.pid, .int .i64 c.ep, .int .i64 c.tm, .int .i64 c.th, .slice A1 c.ps.length c1, .slice D1 c.qs.length e1, .int .i64 c.ag] 26)).alloc (.cells #[.int .i8 0, .int .i64 0, .int .i64 0, .int .i64 0, .int .i64 0, .slice none 0 0, .slice none 0 0, .int .i64 0] 26) := ⟨_, rfl⟩
  have s0 : W0.heap.size = w.heap.size + 1 + 1 := by rw [hW0]; simp
  have B0 : Below w.heap.size w W0 := by rw [hW0]; exact bal (bal (Below.refl _ _) _) _
  have K1 : Blk W0 w.heap.size 26 #[.int .i8 c.st, .int .i64 c.pid, .int .i64 c.ep, .int .i64 c.tm, .int .i64 c.th, .slice A1 c.ps.length c1, .slice D1 c.qs.length e1, .int .i64 c.ag] := by rw [hW0]; exact (Blk.new w 26 #[.int .i8 c.st, .int .i64 c.pid, .int .i64 c.ep, .int .i64 c.tm, .int .i64 c.th, .slice A1 c.ps.length c1, .slice D1 c.qs.length e1, .int .i64 c.ag]).alloc _
  have K3 : Blk W0 (w.heap.size + 1) 26 #[.int .i8 0, .int .i64 0, .int .i64 0, .int .i64 0, .int .i64 0, .slice none 0 0, .slice none 0 0, .int .i64 0] := by rw [hW0]; exact bk_new _ 26 #[.int .i8 0, .int .i64 0, .int .i64 0, .int .i64 0, .int .i64 0, .slice none 0 0, .slice none 0 0, .int .i64 0] (by simp)
  have HW := Lib.hid hW0
  have HS := Lib.hid s0
  have HB := Lib.hid B0
  have HK1 := Lib.hid K1
  have HK3 := Lib.hid K3
  have H1 := Lib.hid h1
  have MY := Lib.hid (rMay_any c A1 D1 c1 e1 w.heap.size W0 (h1.below B0) B0.size h8 h9)
  rw [hmay] at MY
  have L0 := bk_load (P := Tryd.prog) 8 K1 rfl
  clear hW0 s0 B0 K1 K3 h1 h8 h9 hmay kp k3 k4 k6
  go_enter Tryd.func41, Tryd.ntmps41
  go_upto_region 1 with (fail)
  rw [← HW.out]
  go_wp2_with fail
  refine MY.out.mono ?_
  rintro e w1 ⟨rfl, b1⟩
  have B1 := Lib.hid (show Below W0.heap.size W0 w1 from b1)
  have kx := HK1.out.below b1 (by have := HS.out; omega)
  have x0 := kx.cell 0
  have x1 := kx.cell 1
  have x2 := kx.cell 2
  have x3 := kx.cell 3
  have x4 := kx.cell 4
  have x5 := kx.cell 5
  have x6 := kx.cell 6
  have L1 := bk_load (P := Tryd.prog) 8 kx rfl
  clear L0 b1 kx
  go_wp2_with fail
  refine (in_any _ _ _ _).mono ?_
  rintro e w9 ⟨rfl, rfl⟩
  go_wp2_with fail
  refine (ID.out _).mono ?_
  rintro e w2 ⟨rfl, b2⟩
  have B2 := Lib.hid (B1.out.trans (b2.mono B1.out.size))
  have kx := HK1.out.below B2.out (by have := HS.out; omega)
  clear x0 x1 x2 x3 x4 x5 x6 L1
  have x0 := kx.cell 0
  have x1 := kx.cell 1
  have x2 := kx.cell 2
  have x3 := kx.cell 3
  have x4 := kx.cell 4
  have x5 := kx.cell 5
  have x6 := kx.cell 6
  have L1 := bk_load (P := Tryd.prog) 8 kx rfl
  clear b2 kx

  obtain ⟨i0, hi0, hz0, hz1, hz2⟩ := info_parts infoI
  have kx := HK1.out.below B2.out (by have := HS.out; omega)
  have st5 := store_i8 2 (kx.cell 0) (kx.frozen 0)
  have k5 : Blk (w2.setCell ⟨w.heap.size, 0, none⟩ (.int .i8 2)) w.heap.size 26 #[.int .i8 2, .int .i64 c.pid, .int .i64 c.ep, .int .i64 c.tm, .int .i64 c.th, .slice A1 c.ps.length c1, .slice D1 c.qs.length e1, .int .i64 c.ag] := kx.set_ 0 (.int .i8 2)
  have k35 := (HK3.out.below B2.out (by have := HS.out; omega)).far (p := ⟨w.heap.size, 0, none⟩) (by simp) (.int .i8 2)
  have b5 := (HB.out.trans (B2.out.mono HB.out.size)).setCell (p := ⟨w.heap.size, 0, none⟩) (Nat.le_refl _) (.int .i8 2)
  have M5 := Lib.hid (show MkS w 2 [(26, #[.int .i8 2, .int .i64 c.pid, .int .i64 c.ep, .int .i64 c.tm, .int .i64 c.th, .slice A1 c.ps.length c1, .slice D1 c.qs.length e1, .int .i64 c.ag]), (26, #[.int .i8 0, .int .i64 0, .int .i64 0, .int .i64 0, .int .i64 0, .slice none 0 0, .slice none 0 0, .int .i64 0])] (w2.setCell ⟨w.heap.size, 0, none⟩ (.int .i8 2)) from ⟨fun j t a hj => by
    match j, hj with
    | 0, hj => simp at hj; obtain ⟨rfl, rfl⟩ := hj; exact k5
    | 1, hj => simp at hj; obtain ⟨rfl, rfl⟩ := hj; exact k35, b5, by have := k35.lt; omega⟩)
  have L5 := bk_load (P := Tryd.prog) 8 k5 rfl
  clear kx k5 k35 b5
  go_upto_region 7 with (fail)
  clear st5 x0 x1 x2 x3 x4 x5 x6 L1
  generalize w2.setCell ⟨w.heap.size, 0, none⟩ (.int .i8 2) = W5 at *
  go_wp2_with fail
  refine (RH.out W5 M5.out.bel).mono ?_
  rintro e w6 ⟨rfl, b6⟩
  have M6 := Lib.hid (M5.out.below rfl b6)
  obtain ⟨d0, hd0⟩ : ∃ d, d = decide (q ∈ c.ps) := ⟨_, rfl⟩
  have HR := Lib.hid (show goL q c.ps d0 = keepF (fun y => cmpI y q) c.ps q by rw [hd0]; exact goL_keep q c.ps PW.out)
  rw [show (decide (q ∈ ({ c with st := 2 } : Co).ps)) = d0 from hd0.symm]
  clear b6 L5 hd0 hps0
  go_wp2_with fail
  go_loopg [6, 7, 8] c.ps.length (fun mm y1 y2 y3 wr => ∃ (k : Nat) (d : Bool) (ou : List Int) (A : Option Addr) (cc : Nat), k ≤ c.ps.length ∧ y3 = .int .i64 k ∧ y2 = .bool d ∧ y1 = .slice A ou.length cc ∧ mm = c.ps.length - k ∧ ou.length ≤ k + (k + 1) ∧ ou ++ goL q (c.ps.drop k) d = keepF (fun y => cmpI y q) c.ps q ∧ wr.ownsRow (w.heap.size + 2) 3 1 (.slice A ou.length cc) ou.length (cellsI .i64 ou) ∧ MkS w 2 [(26, #[.int .i8 2, .int .i64 c.pid, .int .i64 c.ep, .int .i64 c.tm, .int .i64 c.th, .slice A1 c.ps.length c1, .slice D1 c.qs.length e1, .int .i64 c.ag]), (26, #[.int .i8 0, .int .i64 0, .int .i64 0, .int .i64 0, .int .i64 0, .slice none 0 0, .slice none 0 0, .int .i64 0])] wr)
  case atStart => exact ⟨0, d0, [], none, 0, Nat.zero_le _, rfl, rfl, rfl, by omega, by simp, by rw [List.nil_append, List.drop_zero]; exact HR.out, World.ownsRow_nil _ _ _ _, M6.out⟩
  case round =>
    obtain ⟨k, d, ou, A, cc, hk, rfl, rfl, rfl, hmm, hou, hres, hown, hms⟩ := hrel
    have HM := Lib.hid hmm
    have HRS := Lib.hid hres
    have OW := Lib.hid hown
    have MS := Lib.hid hms
    have x5 := hms.b0.cell 5
    have hl3 : c.ps.length ≤ 3 := HPS.out
    have hle : ou.length ≤ 7 := by omega
    clear hmm hres hown hms
    by_cases hlt : k < c.ps.length
    · have d1 : decide ((k : Int) < (c.ps.length : Int)) = true := by simp; omega
      obtain ⟨z, hz⟩ : ∃ z, c.ps[k]? = some z := ⟨_, List.getElem?_eq_getElem hlt⟩
      have hdz : c.ps.drop k = z :: c.ps.drop (k + 1) := by
        rw [List.drop_eq_getElem_cons hlt]
        congr 1
        rw [List.getElem?_eq_getElem hlt] at hz
        exact Option.some.inj hz
      obtain ⟨b1, o1, rfl, hb1, hc1⟩ := H1.out.1.plain (by omega)
      have CE := Lib.hid (fun W (hb : Below w.heap.size w W) => show W.cell? ⟨b1, o1 + k, none⟩ = some (.int .i64 z) from by rw [hb.cell (by exact hb1)]; exact hc1 k _ (by rw [getElem?_cellsI, hz]; rfl))
      have g1 := CE.out _ MS.out.bel
      have i1' : (0 : Int) ≤ (k : Int) := by omega
      have i2' : (k : Int) < (c.ps.length : Int) := by omega
      have HDZ := Lib.hid hdz
      clear hz hdz hc1
      by_cases hins : d = false ∧ q < z
      · obtain ⟨rfl, hqz⟩ := hins
        have t1 : decide (q < z) = true := decide_eq_true hqz
        have HQ := Lib.hid hqz
        clear hqz
        go_wp2_with (first | (at_builtin; refine wpList_append_any _ rfl (.tmp 49) (.tmp 51) 23 rfl (w.heap.size + 2) 3 i0 (.int .i64 0) 1 8 Tryd.underlying23 hi0 hz0 hz1 hz2 rfl (by decide) (.slice A ou.length cc) ou.length (cellsI .i64 ou) (by rfl) (OW.out.alloc _) (wr.heap.size + 1) (some ⟨wr.heap.size, 0, none⟩) 1 1 (cellsI .i64 [q]) (by rfl) (reads_newI wr 3 [q]) (cellsI_one _) (by unfold maxLen; omega) (by omega) (by rw [World.size_alloc]; have := MS.out.top; omega) ?_; intro v7 W7 hown7 hg7 hat7; have MS7 := Lib.hid ((MS.out.alloc rfl _).grown rfl hg7 (fun y hy => (OW.out.lt y hy).1)); obtain ⟨ou7, hl7⟩ : ∃ l, l = ou ++ [q] := ⟨_, rfl⟩; have hn7 : ou.length + 1 = ou7.length := (by simp [hl7]); have hb7 : ou7.length ≤ ou.length + 1 := (by omega); rw [hn7, show cellsI .i64 ou ++ cellsI .i64 [q] = cellsI .i64 ou7 by simp [hl7, cellsI]] at hown7; obtain ⟨A7, c7, rfl, hc7⟩ := own_slice hown7; have OW7 := Lib.hid hown7; have HL7 := Lib.hid hl7; have HN7 := Lib.hid hn7; clear hown7 hg7 hat7 hl7 hn7; have x5 := MS7.out.b0.cell 5; have g1 := CE.out _ MS7.out.bel) | (at_builtin; refine wpList_append_any _ rfl (.tmp 53) (.tmp 59) 23 rfl (w.heap.size + 2) 3 i0 (.int .i64 0) 1 8 Tryd.underlying23 hi0 hz0 hz1 hz2 rfl (by decide) (.slice A7 ou7.length c7) ou7.length (cellsI .i64 ou7) (by rfl) (OW7.out.alloc _) (W7.heap.size + 1) (some ⟨W7.heap.size, 0, none⟩) 1 1 (cellsI .i64 [z]) (by rfl) (reads_newI W7 3 [z]) (cellsI_one _) (by unfold maxLen; omega) (by omega) (by rw [World.size_alloc]; have := MS7.out.top; omega) ?_; intro v4 W4 hown4 hg4 hat4; have MS4 := Lib.hid ((MS7.out.alloc rfl _).grown rfl hg4 (fun y hy => (OW7.out.lt y hy).1)); obtain ⟨ou4, hl4⟩ : ∃ l, l = ou7 ++ [z] := ⟨_, rfl⟩; have hn4 : ou7.length + 1 = ou4.length := (by simp [hl4]); have hb4 : ou4.length ≤ ou7.length + 1 := (by omega); rw [hn4, show cellsI .i64 ou7 ++ cellsI .i64 [z] = cellsI .i64 ou4 by simp [hl4, cellsI]] at hown4; obtain ⟨A4, c4, rfl, hc4⟩ := own_slice hown4; have OW4 := Lib.hid hown4; have HL4 := Lib.hid hl4; have HN4 := Lib.hid hn4; clear hown4 hg4 hat4 hl4 hn4))
        go_roundg (gk - 1)
        case measure => have := HM.out; omega
        case rel =>
          refine ⟨k + 1, true, ou4, A4, c4, by omega, by go_num, rfl, rfl, by have := HM.out; omega, by omega, ?_, OW4.out, MS4.out⟩
          have hgo : goL q (z :: c.ps.drop (k + 1)) false = q :: z :: goL q (c.ps.drop (k + 1)) true := by
            conv => lhs; unfold goL
            rw [if_pos ⟨rfl, HQ.out⟩]
          rw [← HRS.out, HDZ.out, hgo, HL4.out, HL7.out]
          simp
      · have hg : goL q (z :: c.ps.drop (k + 1)) d = z :: goL q (c.ps.drop (k + 1)) d := by
          conv => lhs; unfold goL
          rw [if_neg hins]
        have HGO := Lib.hid hg
        clear hg
        cases d
        · have t1 : decide (q < z) = false := decide_eq_false (fun h => hins ⟨rfl, h⟩)
          clear hins
          go_wp2_with (at_builtin; refine wpList_append_any _ rfl (.tmp 53) (.tmp 59) 23 rfl (w.heap.size + 2) 3 i0 (.int .i64 0) 1 8 Tryd.underlying23 hi0 hz0 hz1 hz2 rfl (by decide) (.slice A ou.length cc) ou.length (cellsI .i64 ou) (by rfl) (OW.out.alloc _) (wr.heap.size + 1) (some ⟨wr.heap.size, 0, none⟩) 1 1 (cellsI .i64 [z]) (by rfl) (reads_newI wr 3 [z]) (cellsI_one _) (by unfold maxLen; omega) (by omega) (by rw [World.size_alloc]; have := MS.out.top; omega) ?_; intro v4 W4 hown4 hg4 hat4; have MS4 := Lib.hid ((MS.out.alloc rfl _).grown rfl hg4 (fun y hy => (OW.out.lt y hy).1)); obtain ⟨ou4, hl4⟩ : ∃ l, l = ou ++ [z] := ⟨_, rfl⟩; have hn4 : ou.length + 1 = ou4.length := (by simp [hl4]); have hb4 : ou4.length ≤ ou.length + 1 := (by omega); rw [hn4, show cellsI .i64 ou ++ cellsI .i64 [z] = cellsI .i64 ou4 by simp [hl4, cellsI]] at hown4; obtain ⟨A4, c4, rfl, hc4⟩ := own_slice hown4; have OW4 := Lib.hid hown4; have HL4 := Lib.hid hl4; have HN4 := Lib.hid hn4; clear hown4 hg4 hat4 hl4 hn4)
          go_roundg (gk - 1)
          case measure => have := HM.out; omega
          case rel =>
            refine ⟨k + 1, false, ou4, A4, c4, by omega, by go_num, rfl, rfl, by have := HM.out; omega, by omega, ?_, OW4.out, MS4.out⟩
            rw [← HRS.out, HDZ.out, HGO.out, HL4.out]
            simp
        · clear hins
          go_wp2_with (at_builtin; refine wpList_append_any _ rfl (.tmp 53) (.tmp 59) 23 rfl (w.heap.size + 2) 3 i0 (.int .i64 0) 1 8 Tryd.underlying23 hi0 hz0 hz1 hz2 rfl (by decide) (.slice A ou.length cc) ou.length (cellsI .i64 ou) (by rfl) (OW.out.alloc _) (wr.heap.size + 1) (some ⟨wr.heap.size, 0, none⟩) 1 1 (cellsI .i64 [z]) (by rfl) (reads_newI wr 3 [z]) (cellsI_one _) (by unfold maxLen; omega) (by omega) (by rw [World.size_alloc]; have := MS.out.top; omega) ?_; intro v4 W4 hown4 hg4 hat4; have MS4 := Lib.hid ((MS.out.alloc rfl _).grown rfl hg4 (fun y hy => (OW.out.lt y hy).1)); obtain ⟨ou4, hl4⟩ : ∃ l, l = ou ++ [z] := ⟨_, rfl⟩; have hn4 : ou.length + 1 = ou4.length := (by simp [hl4]); have hb4 : ou4.length ≤ ou.length + 1 := (by omega); rw [hn4, show cellsI .i64 ou ++ cellsI .i64 [z] = cellsI .i64 ou4 by simp [hl4, cellsI]] at hown4; obtain ⟨A4, c4, rfl, hc4⟩ := own_slice hown4; have OW4 := Lib.hid hown4; have HL4 := Lib.hid hl4; have HN4 := Lib.hid hn4; clear hown4 hg4 hat4 hl4 hn4)
          go_roundg (gk - 1)
          case measure => have := HM.out; omega
          case rel =>
            refine ⟨k + 1, true, ou4, A4, c4, by omega, by go_num, rfl, rfl, by have := HM.out; omega, by omega, ?_, OW4.out, MS4.out⟩
            rw [← HRS.out, HDZ.out, HGO.out, HL4.out]
            simp
    · obtain rfl : k = c.ps.length := by omega
      have d1 : decide ((c.ps.length : Int) < (c.ps.length : Int)) = false := by simp
      have hdr : c.ps.drop c.ps.length = [] := List.drop_of_length_le (Nat.le_refl _)
      cases d
      · have HR2 := Lib.hid (show ou ++ [q] = keepF (fun y => cmpI y q) c.ps q by rw [← HRS.out, hdr]; rfl)
        have HLN' := Lib.hid (show (ou ++ [q]).length ≤ 1000 by rw [HR2.out]; have := length_keepF (fun y => cmpI y q) c.ps q; have := HPS.out; omega)
        clear hdr
        go_wp2_with (at_builtin; refine wpList_append_any _ rfl (.tmp 63) (.tmp 65) 23 rfl (w.heap.size + 2) 3 i0 (.int .i64 0) 1 8 Tryd.underlying23 hi0 hz0 hz1 hz2 rfl (by decide) (.slice A ou.length cc) ou.length (cellsI .i64 ou) (by rfl) (OW.out.alloc _) (wr.heap.size + 1) (some ⟨wr.heap.size, 0, none⟩) 1 1 (cellsI .i64 [q]) (by rfl) (reads_newI wr 3 [q]) (cellsI_one _) (by unfold maxLen; omega) (by omega) (by rw [World.size_alloc]; have := MS.out.top; omega) ?_; intro v4 W4 hown4 hg4 hat4; have MS4 := Lib.hid ((MS.out.alloc rfl _).grown rfl hg4 (fun y hy => (OW.out.lt y hy).1)); obtain ⟨ou4, hl4⟩ : ∃ l, l = ou ++ [q] := ⟨_, rfl⟩; have hn4 : ou.length + 1 = ou4.length := (by simp [hl4]); have hb4 : ou4.length ≤ ou.length + 1 := (by omega); rw [hn4, show cellsI .i64 ou ++ cellsI .i64 [q] = cellsI .i64 ou4 by simp [hl4, cellsI]] at hown4; obtain ⟨A4, c4, rfl, hc4⟩ := own_slice hown4; have OW4 := Lib.hid hown4; have HL4 := Lib.hid hl4; have HN4 := Lib.hid hn4; clear hown4 hg4 hat4 hl4 hn4; have kz0 := MS4.out.b0; have st7 := store_slI A4 ou4.length c4 (kz0.cell 5) (kz0.frozen 5); have kz : Blk (W4.setCell ⟨w.heap.size, 5, none⟩ (.slice A4 ou4.length c4)) w.heap.size 26 #[.int .i8 2, .int .i64 c.pid, .int .i64 c.ep, .int .i64 c.tm, .int .i64 c.th, .slice A4 ou4.length c4, .slice D1 c.qs.length e1, .int .i64 c.ag] := kz0.set_ 5 (.slice A4 ou4.length c4); have L7 := bk_load (P := Tryd.prog) 8 kz rfl; have k37 := MS4.out.b1.far (p := ⟨w.heap.size, 5, none⟩) (by simp) (.slice A4 ou4.length c4); have b7 := MS4.out.bel.setCell (p := ⟨w.heap.size, 5, none⟩) (Nat.le_refl _) (.slice A4 ou4.length c4); have o7 := bk_own (w' := W4.setCell ⟨w.heap.size, 5, none⟩ (.slice A4 ou4.length c4)) OW4.out (fun y hy => Below.heap_setCell _ _ _ _ (by have := (OW4.out.lt y hy).1; show y ≠ w.heap.size; omega)); obtain ⟨W9, st9, kk, fb, fh, fs⟩ := bk_store (P := Tryd.prog) (ty := 26) (cs := #[.int .i8 2, .int .i64 c.pid, .int .i64 c.ep, .int .i64 c.tm, .int .i64 c.th, .slice A4 ou4.length c4, .slice D1 c.qs.length e1, .int .i64 c.ag]) 8 k37 infoCo rfl rfl (by simp [Value.oneCell']); have BB := Lib.hid (fb w.heap.size w (by omega) b7); have OO := Lib.hid (bk_own o7 (fun y hy => fh y (by have := (OW4.out.lt y hy).1; omega))); have KK := Lib.hid kk; clear kz0 kz k37 b7 o7 kk fb fh fs)
        have HLN := Lib.hid (show ou4.length ≤ 1000 by rw [HL4.out]; exact HLN'.out)
        rw [← HL4.out] at HR2
        refine bodyPost_ret (v := .tuple #[.agg #[.int .i8 2, .int .i64 c.pid, .int .i64 c.ep, .int .i64 c.tm, .int .i64 c.th, .slice A4 ou4.length c4, .slice D1 c.qs.length e1, .int .i64 c.ag], .int .i64 0]) (radd_ret { c with st := 2, ps := ou4 } A4 D1 c4 e1 0 _ (w.heap.size + 1) _ rfl rfl KK.out) rfl ?_
        rw [HE.out, HC.out, ← HR2.out]
        have rr := H1.out.up BB.out
        have na := newAt_of_own OO.out
        exact ⟨A4, D1, c4, e1, rfl, ⟨Reads.of_own OO.out, rr.2.1, HLN.out, rr.2.2.2⟩, BB.out, fun b hb o1 o2 => ⟨na.off (by omega), o2⟩⟩
      · have HR2 := Lib.hid (show ou = keepF (fun y => cmpI y q) c.ps q by rw [← HRS.out, hdr]; show ou = ou ++ []; simp)
        have HLN := Lib.hid (show ou.length ≤ 1000 by rw [HR2.out]; have := length_keepF (fun y => cmpI y q) c.ps q; have := HPS.out; omega)
        clear hdr
        have kz0 := MS.out.b0
        have st7 := store_slI A ou.length cc (kz0.cell 5) (kz0.frozen 5)
        have kz : Blk (wr.setCell ⟨w.heap.size, 5, none⟩ (.slice A ou.length cc)) w.heap.size 26 #[.int .i8 2, .int .i64 c.pid, .int .i64 c.ep, .int .i64 c.tm, .int .i64 c.th, .slice A ou.length cc, .slice D1 c.qs.length e1, .int .i64 c.ag] := kz0.set_ 5 (.slice A ou.length cc)
        have L7 := bk_load (P := Tryd.prog) 8 kz rfl
        have k37 := MS.out.b1.far (p := ⟨w.heap.size, 5, none⟩) (by simp) (.slice A ou.length cc)
        have b7 := MS.out.bel.setCell (p := ⟨w.heap.size, 5, none⟩) (Nat.le_refl _) (.slice A ou.length cc)
        have o7 := bk_own (w' := wr.setCell ⟨w.heap.size, 5, none⟩ (.slice A ou.length cc)) OW.out (fun y hy => Below.heap_setCell _ _ _ _ (by have := (OW.out.lt y hy).1; show y ≠ w.heap.size; omega))
        obtain ⟨W9, st9, kk, fb, fh, fs⟩ := bk_store (P := Tryd.prog) (ty := 26) (cs := #[.int .i8 2, .int .i64 c.pid, .int .i64 c.ep, .int .i64 c.tm, .int .i64 c.th, .slice A ou.length cc, .slice D1 c.qs.length e1, .int .i64 c.ag]) 8 k37 infoCo rfl rfl (by simp [Value.oneCell'])
        have BB := Lib.hid (fb w.heap.size w (by omega) b7)
        have OO := Lib.hid (bk_own o7 (fun y hy => fh y (by have := (OW.out.lt y hy).1; omega)))
        have KK := Lib.hid kk
        clear kz0 kz k37 b7 o7 kk fb fh fs
        go_wp2_with fail
        refine bodyPost_ret (v := .tuple #[.agg #[.int .i8 2, .int .i64 c.pid, .int .i64 c.ep, .int .i64 c.tm, .int .i64 c.th, .slice A ou.length cc, .slice D1 c.qs.length e1, .int .i64 c.ag], .int .i64 0]) (radd_ret { c with st := 2, ps := ou } A D1 cc e1 0 _ (w.heap.size + 1) _ rfl rfl KK.out) rfl ?_
        rw [HE.out, HC.out, ← HR2.out]
        have rr := H1.out.up BB.out
        have na := newAt_of_own OO.out
        exact ⟨A, D1, cc, e1, rfl, ⟨Reads.of_own OO.out, rr.2.1, HLN.out, rr.2.2.2⟩, BB.out, fun b hb o1 o2 => ⟨na.off (by omega), o2⟩⟩
theorem rAdd_any (c : Co) (A1 D1 : Option Addr) (c1 e1 : Nat) (q : Int) (w : World) (h1 : CoR w w.heap.size c A1 D1) (h8 : -128 ≤ c.st) (h9 : c.st ≤ 127) :
    Calls Tryd.prog 41 #[(.agg #[.int .i8 c.st, .int .i64 c.pid, .int .i64 c.ep, .int .i64 c.tm, .int .i64 c.th, .slice A1 c.ps.length c1, .slice D1 c.qs.length e1, .int .i64 c.ag]), .int .i64 q] w (MvP c A1 D1 (addC c q) (addE c q) w) := by
  cases hm : mayB c
  · exact radd_a c A1 D1 c1 e1 q w h1 h8 h9 hm
  cases kp : partB q
  · exact radd_b c A1 D1 c1 e1 q w h1 h8 h9 hm kp
  cases ki : idlB c
  · by_cases k2 : c.st = 2
    · exact radd_dg c A1 D1 c1 e1 q w h1 h8 h9 hm kp (.inr k2) ki k2
    · exact radd_c c A1 D1 c1 e1 q w h1 h8 h9 hm kp ki k2
  · exact radd_di c A1 D1 c1 e1 q w h1 h8 h9 hm kp (.inl ki) ki
end
end Go.Proofs.YtagclnmchkgpdaaDoor
