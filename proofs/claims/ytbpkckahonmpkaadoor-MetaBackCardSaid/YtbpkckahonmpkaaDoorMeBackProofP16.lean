/-
  Layer 18, the document's: Complete, Place.
-/
import Derived.Test.YtbpkckahonmpkaaDoorMeBackProofP15
set_option linter.unusedVariables false
set_option linter.unusedSimpArgs false
namespace Go.Proofs.YtbpkckahonmpkaaDoor
open Go.RowKit
section
attribute [-go_sem] loadCells storeVar
set_option maxRecDepth 100000 in
theorem rplace_ret (x : Co) (A5 D5 : Option Addr) (c5 e5 : Nat) (n : Int) (tmps : Array Value) (b : Nat) (W : World) (h2 : tmps[4]?.getD undef = .pointer (some ⟨b, 0, none⟩)) (h3 : tmps[5]?.getD undef = .int .i64 n) (hK : Blk W b 26 #[.int .i8 x.st, .int .i64 x.pid, .int .i64 x.ep, .int .i64 x.tm, .int .i64 x.th, .slice A5 x.ps.length c5, .slice D5 x.qs.length e5, .int .i64 x.ag]) :
    (results Tryd.f21 tmps).run Tryd.prog W = .ok (.tuple #[(.agg #[.int .i8 x.st, .int .i64 x.pid, .int .i64 x.ep, .int .i64 x.tm, .int .i64 x.th, .slice A5 x.ps.length c5, .slice D5 x.qs.length e5, .int .i64 x.ag]), .int .i64 n]) W := by
  have LC := bk_load (P := Tryd.prog) 8 hK rfl
  clear hK
  simp [results, Tryd.results21, go_sem, h2, h3, LC]
set_option maxRecDepth 100000 in
set_option maxHeartbeats 2000000 in
theorem rplace_a (c : Co) (A1 D1 : Option Addr) (c1 e1 : Nat) (l : List Int) (AL : Option Addr) (ml : Nat) (w : World) (h1 : CoR w w.heap.size c A1 D1) (h8 : -128 ≤ c.st) (h9 : c.st ≤ 127) (hr : Reads w w.heap.size 1 AL l.length (cellsI .i64 l)) (hll : l.length ≤ 1000) (hmay : mayB c = false) :
    Calls Tryd.prog 21 #[(.agg #[.int .i8 c.st, .int .i64 c.pid, .int .i64 c.ep, .int .i64 c.tm, .int .i64 c.th, .slice A1 c.ps.length c1, .slice D1 c.qs.length e1, .int .i64 c.ag]), .slice AL l.length ml] w (MvP c A1 D1 (placeC c l) (placeE c l) w) := by
  have HR := Lib.hid hr
  have HE := Lib.hid (show placeE c l = 2 by unfold placeE; rw [if_pos (.inl hmay)])
  have HC := Lib.hid (show placeC c l = Co0 by unfold placeC; rw [if_pos (by rw [HE.out]; decide)])

  obtain ⟨W0, hW0⟩ : ∃ W0, W0 = (w.alloc (.cells #[.int .i8 c.st, .int .i64 c.pid, .int .i64 c.ep, .int .i64 c.tm, .int .i64 c.th, .slice A1 c.ps.length c1, .slice D1 c.qs.length e1, .int .i64 c.ag] 26)).alloc (.cells #[.int .i8 0, .int .i64 0, .int .i64 0, .int .i64 0, .int .i64 0, .slice none 0 0, .slice none 0 0, .int .i64 0] 26) := ⟨_, rfl⟩
  have s0 : W0.heap.size = w.heap.size + 1 + 1 := by rw [hW0]; simp
  have B0 : Below w.heap.size w W0 := by rw [hW0]; exact bal (bal (Below.refl _ _) _) _
  have K1 : Blk W0 w.heap.size 26 #[.int .i8 c.st, .int .i64 c.pid, .int .i64 c.ep, .int .i64 c.tm, .int .i64 c.th, .slice A1 c.ps.length c1, .slice D1 c.qs.length e1, .int .i64 c.ag] := by rw [hW0]; exact (Blk.new w 26 #[.int .i8 c.st, .int .i64 c.pid, .int .i64 c.ep, .int .i64 c.tm, .int .i64 c.th, .slice A1 c.ps.length c1, .slice D1 c.qs.length e1, .int .i64 c.ag]).alloc _
  have K3 : Blk W0 (w.heap.size + 1) 26 #[.int .i8 0, .int .i64 0, .int .i64 0, .int .i64 0, .int .i64 0, .slice none 0 0, .slice none 0 0, .int .i64 0] := by rw [hW0]; exact bk_new _ 26 #[.int .i8 0, .int .i64 0, .int .i64 0, .int .i64 0, .int .i64 0, .slice none 0 0, .slice none 0 0, .int .i64 0] (by simp)
  have HW := Lib.hid hW0
  have HS := Lib.hid s0
  have HB := Lib.hid B0
  have HK1 := Lib.hid K1
  have HK3 := Lib.hid K3
  have H1 := Lib.hid h1
  have MY := Lib.hid (rMay_any c A1 D1 c1 e1 w.heap.size W0 (h1.below B0) B0.size h8 h9)
  rw [hmay] at MY
  have L0 := bk_load (P := Tryd.prog) 8 K1 rfl
  clear hW0 s0 B0 K1 K3 h1 h8 h9 hmay hr hll
  go_enter Tryd.func21, Tryd.ntmps21
  go_upto_region 1 with (fail)
  rw [← HW.out]
  go_wp2_with fail
  refine MY.out.mono ?_
  rintro e w1 ⟨rfl, b1⟩
  have B1 := Lib.hid (show Below W0.heap.size W0 w1 from b1)
  have kx := HK1.out.below b1 (by have := HS.out; omega)
  have x0 := kx.cell 0
  have x1 := kx.cell 1
  have x2 := kx.cell 2
  have x3 := kx.cell 3
  have x4 := kx.cell 4
  have x5 := kx.cell 5
  have x6 := kx.cell 6
  have L1 := bk_load (P := Tryd.prog) 8 kx rfl
  clear L0 b1 kx
  obtain ⟨W9, st, kk, fb, fh, fs⟩ := bk_store (P := Tryd.prog) (ty := 26) (cs := #[.int .i8 0, .int .i64 0, .int .i64 0, .int .i64 0, .int .i64 0, .slice none 0 0, .slice none 0 0, .int .i64 0]) 8 (HK3.out.below B1.out (by have := HS.out; omega)) infoCo rfl rfl (by simp [Value.oneCell'])
  have BB := Lib.hid (fb w.heap.size w (by omega) (HB.out.trans (B1.out.mono HB.out.size)))
  have KK := Lib.hid kk
  clear kk fb fh fs
  go_wp2_with fail
  refine bodyPost_ret (v := .tuple #[.agg #[.int .i8 0, .int .i64 0, .int .i64 0, .int .i64 0, .int .i64 0, .slice none 0 0, .slice none 0 0, .int .i64 0], .int .i64 2]) (rplace_ret Co0 none none 0 0 _ _ (w.heap.size + 1) _ rfl rfl KK.out) rfl ?_
  rw [HE.out, HC.out]
  exact ⟨none, none, 0, 0, rfl, ⟨Reads.none_, Reads.none_, Nat.zero_le _, Nat.zero_le _⟩, BB.out, fun b hb _ _ => ⟨offB_none', offB_none'⟩⟩
set_option maxRecDepth 100000 in
set_option maxHeartbeats 2000000 in
theorem rplace_b (c : Co) (A1 D1 : Option Addr) (c1 e1 : Nat) (l : List Int) (AL : Option Addr) (ml : Nat) (w : World) (h1 : CoR w w.heap.size c A1 D1) (h8 : -128 ≤ c.st) (h9 : c.st ≤ 127) (hr : Reads w w.heap.size 1 AL l.length (cellsI .i64 l)) (hll : l.length ≤ 1000) (hmay : mayB c = true) (kp : partsB l = false) :
    Calls Tryd.prog 21 #[(.agg #[.int .i8 c.st, .int .i64 c.pid, .int .i64 c.ep, .int .i64 c.tm, .int .i64 c.th, .slice A1 c.ps.length c1, .slice D1 c.qs.length e1, .int .i64 c.ag]), .slice AL l.length ml] w (MvP c A1 D1 (placeC c l) (placeE c l) w) := by
  have HR := Lib.hid hr
  have HE := Lib.hid (show placeE c l = 2 by unfold placeE; rw [if_pos (.inr kp)])
  have HC := Lib.hid (show placeC c l = Co0 by unfold placeC; rw [if_pos (by rw [HE.out]; decide)])
  have RI := Lib.hid (fun W (hb : Below w.heap.size w W) => rise_any AL l ml w.heap.size W (Reads.below hr hb) (by omega))
  rw [riseB_parts, kp] at RI

  obtain ⟨W0, hW0⟩ : ∃ W0, W0 = (w.alloc (.cells #[.int .i8 c.st, .int .i64 c.pid, .int .i64 c.ep, .int .i64 c.tm, .int .i64 c.th, .slice A1 c.ps.length c1, .slice D1 c.qs.length e1, .int .i64 c.ag] 26)).alloc (.cells #[.int .i8 0, .int .i64 0, .int .i64 0, .int .i64 0, .int .i64 0, .slice none 0 0, .slice none 0 0, .int .i64 0] 26) := ⟨_, rfl⟩
  have s0 : W0.heap.size = w.heap.size + 1 + 1 := by rw [hW0]; simp
  have B0 : Below w.heap.size w W0 := by rw [hW0]; exact bal (bal (Below.refl _ _) _) _
  have K1 : Blk W0 w.heap.size 26 #[.int .i8 c.st, .int .i64 c.pid, .int .i64 c.ep, .int .i64 c.tm, .int .i64 c.th, .slice A1 c.ps.length c1, .slice D1 c.qs.length e1, .int .i64 c.ag] := by rw [hW0]; exact (Blk.new w 26 #[.int .i8 c.st, .int .i64 c.pid, .int .i64 c.ep, .int .i64 c.tm, .int .i64 c.th, .slice A1 c.ps.length c1, .slice D1 c.qs.length e1, .int .i64 c.ag]).alloc _
  have K3 : Blk W0 (w.heap.size + 1) 26 #[.int .i8 0, .int .i64 0, .int .i64 0, .int .i64 0, .int .i64 0, .slice none 0 0, .slice none 0 0, .int .i64 0] := by rw [hW0]; exact bk_new _ 26 #[.int .i8 0, .int .i64 0, .int .i64 0, .int .i64 0, .int .i64 0, .slice none 0 0, .slice none 0 0, .int .i64 0] (by simp)
  have HW := Lib.hid hW0
  have HS := Lib.hid s0
  have HB := Lib.hid B0
  have HK1 := Lib.hid K1
  have HK3 := Lib.hid K3
  have H1 := Lib.hid h1
  have MY := Lib.hid (rMay_any c A1 D1 c1 e1 w.heap.size W0 (h1.below B0) B0.size h8 h9)
  rw [hmay] at MY
  have L0 := bk_load (P := Tryd.prog) 8 K1 rfl
  clear hW0 s0 B0 K1 K3 h1 h8 h9 hmay hr hll kp
  go_enter Tryd.func21, Tryd.ntmps21
  go_upto_region 1 with (fail)
  rw [← HW.out]
  go_wp2_with fail
  refine MY.out.mono ?_
  rintro e w1 ⟨rfl, b1⟩
  have B1 := Lib.hid (show Below W0.heap.size W0 w1 from b1)
  have kx := HK1.out.below b1 (by have := HS.out; omega)
  have x0 := kx.cell 0
  have x1 := kx.cell 1
  have x2 := kx.cell 2
  have x3 := kx.cell 3
  have x4 := kx.cell 4
  have x5 := kx.cell 5
  have x6 := kx.cell 6
  have L1 := bk_load (P := Tryd.prog) 8 kx rfl
  clear L0 b1 kx
  go_wp2_with fail
  refine (RI.out _ (HB.out.trans (B1.out.mono HB.out.size))).mono ?_
  rintro e w9 ⟨rfl, rfl⟩

  obtain ⟨W9, st, kk, fb, fh, fs⟩ := bk_store (P := Tryd.prog) (ty := 26) (cs := #[.int .i8 0, .int .i64 0, .int .i64 0, .int .i64 0, .int .i64 0, .slice none 0 0, .slice none 0 0, .int .i64 0]) 8 (HK3.out.below B1.out (by have := HS.out; omega)) infoCo rfl rfl (by simp [Value.oneCell'])
  have BB := Lib.hid (fb w.heap.size w (by omega) (HB.out.trans (B1.out.mono HB.out.size)))
  have KK := Lib.hid kk
  clear kk fb fh fs
  go_wp2_with fail
  refine bodyPost_ret (v := .tuple #[.agg #[.int .i8 0, .int .i64 0, .int .i64 0, .int .i64 0, .int .i64 0, .slice none 0 0, .slice none 0 0, .int .i64 0], .int .i64 2]) (rplace_ret Co0 none none 0 0 _ _ (w.heap.size + 1) _ rfl rfl KK.out) rfl ?_
  rw [HE.out, HC.out]
  exact ⟨none, none, 0, 0, rfl, ⟨Reads.none_, Reads.none_, Nat.zero_le _, Nat.zero_le _⟩, BB.out, fun b hb _ _ => ⟨offB_none', offB_none'⟩⟩
set_option maxRecDepth 100000 in
set_option maxHeartbeats 2000000 in
theorem rplace_c (c : Co) (A1 D1 : Option Addr) (c1 e1 : Nat) (l : List Int) (AL : Option Addr) (ml : Nat) (w : World) (h1 : CoR w w.heap.size c A1 D1) (h8 : -128 ≤ c.st) (h9 : c.st ≤ 127) (hr : Reads w w.heap.size 1 AL l.length (cellsI .i64 l)) (hll : l.length ≤ 1000) (hmay : mayB c = true) (kp : partsB l = true) (k0 : c.st = 0) (kl : 0 < l.length) :
    Calls Tryd.prog 21 #[(.agg #[.int .i8 c.st, .int .i64 c.pid, .int .i64 c.ep, .int .i64 c.tm, .int .i64 c.th, .slice A1 c.ps.length c1, .slice D1 c.qs.length e1, .int .i64 c.ag]), .slice AL l.length ml] w (MvP c A1 D1 (placeC c l) (placeE c l) w) := by
  have HR := Lib.hid hr
  have HE := Lib.hid (show placeE c l = 180 by unfold placeE; rw [if_neg (by rw [hmay, kp]; simp)]; rw [if_pos ⟨k0, kl⟩])
  have HC := Lib.hid (show placeC c l = Co0 by unfold placeC; rw [if_pos (by rw [HE.out]; decide)])
  have RI := Lib.hid (fun W (hb : Below w.heap.size w W) => rise_any AL l ml w.heap.size W (Reads.below hr hb) (by omega))
  rw [riseB_parts, kp] at RI
  have z0 : (c.st == 0) = true := by rw [k0]; rfl
  have zl : decide ((0 : Int) < (l.length : Int)) = true := decide_eq_true (by omega)
  have zl' : decide (0 < l.length) = true := decide_eq_true (by omega)
  obtain ⟨W0, hW0⟩ : ∃ W0, W0 = (w.alloc (.cells #[.int .i8 c.st, .int .i64 c.pid, .int .i64 c.ep, .int .i64 c.tm, .int .i64 c.th, .slice A1 c.ps.length c1, .slice D1 c.qs.length e1, .int .i64 c.ag] 26)).alloc (.cells #[.int .i8 0, .int .i64 0, .int .i64 0, .int .i64 0, .int .i64 0, .slice none 0 0, .slice none 0 0, .int .i64 0] 26) := ⟨_, rfl⟩
  have s0 : W0.heap.size = w.heap.size + 1 + 1 := by rw [hW0]; simp
  have B0 : Below w.heap.size w W0 := by rw [hW0]; exact bal (bal (Below.refl _ _) _) _
  have K1 : Blk W0 w.heap.size 26 #[.int .i8 c.st, .int .i64 c.pid, .int .i64 c.ep, .int .i64 c.tm, .int .i64 c.th, .slice A1 c.ps.length c1, .slice D1 c.qs.length e1, .int .i64 c.ag] := by rw [hW0]; exact (Blk.new w 26 #[.int .i8 c.st, .int .i64 c.pid, .int .i64 c.ep, .int .i64 c.tm, .int .i64 c.th, .slice A1 c.ps.length c1, .slice D1 c.qs.length e1, .int .i64 c.ag]).alloc _
  have K3 : Blk W0 (w.heap.size + 1) 26 #[.int .i8 0, .int .i64 0, .int .i64 0, .int .i64 0, .int .i64 0, .slice none 0 0, .slice none 0 0, .int .i64 0] := by rw [hW0]; exact bk_new _ 26 #[.int .i8 0, .int .i64 0, .int .i64 0, .int .i64 0, .int .i64 0, .slice none 0 0, .slice none 0 0, .int .i64 0] (by simp)
  have HW := Lib.hid hW0
  have HS := Lib.hid s0
  have HB := Lib.hid B0
  have HK1 := Lib.hid K1
  have HK3 := Lib.hid K3
  have H1 := Lib.hid h1
  have MY := Lib.hid (rMay_any c A1 D1 c1 e1 w.heap.size W0 (h1.below B0) B0.size h8 h9)
  rw [hmay] at MY
  have L0 := bk_load (P := Tryd.prog) 8 K1 rfl
  clear hW0 s0 B0 K1 K3 h1 h8 h9 hmay hr hll kp k0 kl
  go_enter Tryd.func21, Tryd.ntmps21
  go_upto_region 1 with (fail)
  rw [← HW.out]
  go_wp2_with fail
  refine MY.out.mono ?_
  rintro e w1 ⟨rfl, b1⟩
  have B1 := Lib.hid (show Below W0.heap.size W0 w1 from b1)
  have kx := HK1.out.below b1 (by have := HS.out; omega)
  have x0 := kx.cell 0
  have x1 := kx.cell 1
  have x2 := kx.cell 2
  have x3 := kx.cell 3
  have x4 := kx.cell 4
  have x5 := kx.cell 5
  have x6 := kx.cell 6
  have L1 := bk_load (P := Tryd.prog) 8 kx rfl
  clear L0 b1 kx
  go_wp2_with fail
  refine (RI.out _ (HB.out.trans (B1.out.mono HB.out.size))).mono ?_
  rintro e w9 ⟨rfl, rfl⟩

  obtain ⟨W9, st, kk, fb, fh, fs⟩ := bk_store (P := Tryd.prog) (ty := 26) (cs := #[.int .i8 0, .int .i64 0, .int .i64 0, .int .i64 0, .int .i64 0, .slice none 0 0, .slice none 0 0, .int .i64 0]) 8 (HK3.out.below B1.out (by have := HS.out; omega)) infoCo rfl rfl (by simp [Value.oneCell'])
  have BB := Lib.hid (fb w.heap.size w (by omega) (HB.out.trans (B1.out.mono HB.out.size)))
  have KK := Lib.hid kk
  clear kk fb fh fs
  go_wp2_with fail
  refine bodyPost_ret (v := .tuple #[.agg #[.int .i8 0, .int .i64 0, .int .i64 0, .int .i64 0, .int .i64 0, .slice none 0 0, .slice none 0 0, .int .i64 0], .int .i64 180]) (rplace_ret Co0 none none 0 0 _ _ (w.heap.size + 1) _ rfl rfl KK.out) rfl ?_
  rw [HE.out, HC.out]
  exact ⟨none, none, 0, 0, rfl, ⟨Reads.none_, Reads.none_, Nat.zero_le _, Nat.zero_le _⟩, BB.out, fun b hb _ _ => ⟨offB_none', offB_none'⟩⟩
set_option maxRecDepth 100000 in
set_option maxHeartbeats 2000000 in
theorem rplace_d (c : Co) (A1 D1 : Option Addr) (c1 e1 : Nat) (l : List Int) (AL : Option Addr) (ml : Nat) (w : World) (h1 : CoR w w.heap.size c A1 D1) (h8 : -128 ≤ c.st) (h9 : c.st ≤ 127) (hr : Reads w w.heap.size 1 AL l.length (cellsI .i64 l)) (hll : l.length ≤ 1000) (hmay : mayB c = true) (kp : partsB l = true) (k0 : c.st = 0) (kl : l.length = 0) :
    Calls Tryd.prog 21 #[(.agg #[.int .i8 c.st, .int .i64 c.pid, .int .i64 c.ep, .int .i64 c.tm, .int .i64 c.th, .slice A1 c.ps.length c1, .slice D1 c.qs.length e1, .int .i64 c.ag]), .slice AL l.length ml] w (MvP c A1 D1 (placeC c l) (placeE c l) w) := by
  have HR := Lib.hid hr
  have HE := Lib.hid (show placeE c l = 0 by unfold placeE; rw [if_neg (by rw [hmay, kp]; simp)]; rw [if_neg (by omega)])
  have HC := Lib.hid (show placeC c l = c by unfold placeC; rw [if_neg (by rw [HE.out]; decide), if_neg (by omega), if_neg (by omega), if_neg (by omega)]; rw [may_none hmay k0, List.eq_nil_of_length_eq_zero kl]; rfl)
  have RI := Lib.hid (fun W (hb : Below w.heap.size w W) => rise_any AL l ml w.heap.size W (Reads.below hr hb) (by omega))
  rw [riseB_parts, kp] at RI
  have z0 : (c.st == 0) = true := by rw [k0]; rfl
  have zl : decide ((0 : Int) < (l.length : Int)) = false := decide_eq_false (by omega)
  have zl' : decide (0 < l.length) = false := decide_eq_false (by omega)
  obtain ⟨W0, hW0⟩ : ∃ W0, W0 = (w.alloc (.cells #[.int .i8 c.st, .int .i64 c.pid, .int .i64 c.ep, .int .i64 c.tm, .int .i64 c.th, .slice A1 c.ps.length c1, .slice D1 c.qs.length e1, .int .i64 c.ag] 26)).alloc (.cells #[.int .i8 0, .int .i64 0, .int .i64 0, .int .i64 0, .int .i64 0, .slice none 0 0, .slice none 0 0, .int .i64 0] 26) := ⟨_, rfl⟩
  have s0 : W0.heap.size = w.heap.size + 1 + 1 := by rw [hW0]; simp
  have B0 : Below w.heap.size w W0 := by rw [hW0]; exact bal (bal (Below.refl _ _) _) _
  have K1 : Blk W0 w.heap.size 26 #[.int .i8 c.st, .int .i64 c.pid, .int .i64 c.ep, .int .i64 c.tm, .int .i64 c.th, .slice A1 c.ps.length c1, .slice D1 c.qs.length e1, .int .i64 c.ag] := by rw [hW0]; exact (Blk.new w 26 #[.int .i8 c.st, .int .i64 c.pid, .int .i64 c.ep, .int .i64 c.tm, .int .i64 c.th, .slice A1 c.ps.length c1, .slice D1 c.qs.length e1, .int .i64 c.ag]).alloc _
  have K3 : Blk W0 (w.heap.size + 1) 26 #[.int .i8 0, .int .i64 0, .int .i64 0, .int .i64 0, .int .i64 0, .slice none 0 0, .slice none 0 0, .int .i64 0] := by rw [hW0]; exact bk_new _ 26 #[.int .i8 0, .int .i64 0, .int .i64 0, .int .i64 0, .int .i64 0, .slice none 0 0, .slice none 0 0, .int .i64 0] (by simp)
  have HW := Lib.hid hW0
  have HS := Lib.hid s0
  have HB := Lib.hid B0
  have HK1 := Lib.hid K1
  have HK3 := Lib.hid K3
  have H1 := Lib.hid h1
  have MY := Lib.hid (rMay_any c A1 D1 c1 e1 w.heap.size W0 (h1.below B0) B0.size h8 h9)
  rw [hmay] at MY
  have L0 := bk_load (P := Tryd.prog) 8 K1 rfl
  clear hW0 s0 B0 K1 K3 h1 h8 h9 hmay hr hll kp k0 kl
  go_enter Tryd.func21, Tryd.ntmps21
  go_upto_region 1 with (fail)
  rw [← HW.out]
  go_wp2_with fail
  refine MY.out.mono ?_
  rintro e w1 ⟨rfl, b1⟩
  have B1 := Lib.hid (show Below W0.heap.size W0 w1 from b1)
  have kx := HK1.out.below b1 (by have := HS.out; omega)
  have x0 := kx.cell 0
  have x1 := kx.cell 1
  have x2 := kx.cell 2
  have x3 := kx.cell 3
  have x4 := kx.cell 4
  have x5 := kx.cell 5
  have x6 := kx.cell 6
  have L1 := bk_load (P := Tryd.prog) 8 kx rfl
  clear L0 b1 kx
  go_wp2_with fail
  refine (RI.out _ (HB.out.trans (B1.out.mono HB.out.size))).mono ?_
  rintro e w9 ⟨rfl, rfl⟩

  obtain ⟨W9, st9, kk, fb, fh, fs⟩ := bk_store (P := Tryd.prog) (ty := 26) (cs := #[.int .i8 c.st, .int .i64 c.pid, .int .i64 c.ep, .int .i64 c.tm, .int .i64 c.th, .slice A1 c.ps.length c1, .slice D1 c.qs.length e1, .int .i64 c.ag]) 8 (HK3.out.below B1.out (by have := HS.out; omega)) infoCo rfl rfl (by simp [Value.oneCell'])
  have BB := Lib.hid (fb w.heap.size w (by omega) (HB.out.trans (B1.out.mono HB.out.size)))
  have KK := Lib.hid kk
  clear kk fb fh fs
  go_wp2_with fail
  refine bodyPost_ret (v := .tuple #[.agg #[.int .i8 c.st, .int .i64 c.pid, .int .i64 c.ep, .int .i64 c.tm, .int .i64 c.th, .slice A1 c.ps.length c1, .slice D1 c.qs.length e1, .int .i64 c.ag], .int .i64 0]) (rplace_ret c A1 D1 c1 e1 0 _ (w.heap.size + 1) _ rfl rfl KK.out) rfl ?_
  rw [HE.out, HC.out]
  exact ⟨A1, D1, c1, e1, rfl, H1.out.up BB.out, BB.out, fun b hb o1 o2 => ⟨o1, o2⟩⟩
set_option maxRecDepth 100000 in
set_option maxHeartbeats 2000000 in
theorem rplace_f (c : Co) (A1 D1 : Option Addr) (c1 e1 : Nat) (l : List Int) (AL : Option Addr) (ml : Nat) (w : World) (h1 : CoR w w.heap.size c A1 D1) (h8 : -128 ≤ c.st) (h9 : c.st ≤ 127) (hr : Reads w w.heap.size 1 AL l.length (cellsI .i64 l)) (hll : l.length ≤ 1000) (hmay : mayB c = true) (kp : partsB l = true) (k2 : c.st = 2) (kl : l.length = 0) (kq : c.qs.length = 0) :
    Calls Tryd.prog 21 #[(.agg #[.int .i8 c.st, .int .i64 c.pid, .int .i64 c.ep, .int .i64 c.tm, .int .i64 c.th, .slice A1 c.ps.length c1, .slice D1 c.qs.length e1, .int .i64 c.ag]), .slice AL l.length ml] w (MvP c A1 D1 (placeC c l) (placeE c l) w) := by
  have HR := Lib.hid hr
  have HE := Lib.hid (show placeE c l = 0 by unfold placeE; rw [if_neg (by rw [hmay, kp]; simp)]; rw [if_neg (by omega)])
  have HC := Lib.hid (show placeC c l = ⟨1, c.pid, c.ep, c.tm, 0, [], [], 0⟩ by unfold placeC; rw [if_neg (by rw [HE.out]; decide), if_neg (by omega), if_pos k2, if_pos ⟨kl, kq⟩, (may_going hmay k2).2.1, List.eq_nil_of_length_eq_zero kl, List.eq_nil_of_length_eq_zero kq])
  have RI := Lib.hid (fun W (hb : Below w.heap.size w W) => rise_any AL l ml w.heap.size W (Reads.below hr hb) (by omega))
  rw [riseB_parts, kp] at RI
  have z0 : (c.st == 0) = false := by rw [k2]; rfl
  have z3 : (c.st == 3) = false := by rw [k2]; rfl
  have z4 : (c.st == 4) = false := by rw [k2]; rfl
  have z2 : (c.st == 2) = true := by rw [k2]; rfl
  have zl : ((l.length : Int) == 0) = true := by rw [kl]; rfl
  have zq : ((c.qs.length : Int) == 0) = true := by rw [kq]; rfl
  obtain ⟨W0, hW0⟩ : ∃ W0, W0 = (w.alloc (.cells #[.int .i8 c.st, .int .i64 c.pid, .int .i64 c.ep, .int .i64 c.tm, .int .i64 c.th, .slice A1 c.ps.length c1, .slice D1 c.qs.length e1, .int .i64 c.ag] 26)).alloc (.cells #[.int .i8 0, .int .i64 0, .int .i64 0, .int .i64 0, .int .i64 0, .slice none 0 0, .slice none 0 0, .int .i64 0] 26) := ⟨_, rfl⟩
  have s0 : W0.heap.size = w.heap.size + 1 + 1 := by rw [hW0]; simp
  have B0 : Below w.heap.size w W0 := by rw [hW0]; exact bal (bal (Below.refl _ _) _) _
  have K1 : Blk W0 w.heap.size 26 #[.int .i8 c.st, .int .i64 c.pid, .int .i64 c.ep, .int .i64 c.tm, .int .i64 c.th, .slice A1 c.ps.length c1, .slice D1 c.qs.length e1, .int .i64 c.ag] := by rw [hW0]; exact (Blk.new w 26 #[.int .i8 c.st, .int .i64 c.pid, .int .i64 c.ep, .int .i64 c.tm, .int .i64 c.th, .slice A1 c.ps.length c1, .slice D1 c.qs.length e1, .int .i64 c.ag]).alloc _
  have K3 : Blk W0 (w.heap.size + 1) 26 #[.int .i8 0, .int .i64 0, .int .i64 0, .int .i64 0, .int .i64 0, .slice none 0 0, .slice none 0 0, .int .i64 0] := by rw [hW0]; exact bk_new _ 26 #[.int .i8 0, .int .i64 0, .int .i64 0, .int .i64 0, .int .i64 0, .slice none 0 0, .slice none 0 0, .int .i64 0] (by simp)
  have HW := Lib.hid hW0
  have HS := Lib.hid s0
  have HB := Lib.hid B0
  have HK1 := Lib.hid K1
  have HK3 := Lib.hid K3
  have H1 := Lib.hid h1
  have MY := Lib.hid (rMay_any c A1 D1 c1 e1 w.heap.size W0 (h1.below B0) B0.size h8 h9)
  rw [hmay] at MY
  have L0 := bk_load (P := Tryd.prog) 8 K1 rfl
  clear hW0 s0 B0 K1 K3 h1 h8 h9 hmay hr hll kp k2 kl kq
  go_enter Tryd.func21, Tryd.ntmps21
  go_upto_region 1 with (fail)
  rw [← HW.out]
  go_wp2_with fail
  refine MY.out.mono ?_
  rintro e w1 ⟨rfl, b1⟩
  have B1 := Lib.hid (show Below W0.heap.size W0 w1 from b1)
  have kx := HK1.out.below b1 (by have := HS.out; omega)
  have x0 := kx.cell 0
  have x1 := kx.cell 1
  have x2 := kx.cell 2
  have x3 := kx.cell 3
  have x4 := kx.cell 4
  have x5 := kx.cell 5
  have x6 := kx.cell 6
  have L1 := bk_load (P := Tryd.prog) 8 kx rfl
  clear L0 b1 kx
  go_wp2_with fail
  refine (RI.out _ (HB.out.trans (B1.out.mono HB.out.size))).mono ?_
  rintro e w9 ⟨rfl, rfl⟩

  obtain ⟨W9, st, kk, fb, fh, fs⟩ := bk_store (P := Tryd.prog) (ty := 26) (cs := #[.int .i8 1, .int .i64 c.pid, .int .i64 c.ep, .int .i64 c.tm, .int .i64 0, .slice none 0 0, .slice none 0 0, .int .i64 0]) 8 (HK3.out.below B1.out (by have := HS.out; omega)) infoCo rfl rfl (by simp [Value.oneCell'])
  have BB := Lib.hid (fb w.heap.size w (by omega) (HB.out.trans (B1.out.mono HB.out.size)))
  have KK := Lib.hid kk
  clear kk fb fh fs
  go_wp2_with fail
  refine bodyPost_ret (v := .tuple #[.agg #[.int .i8 1, .int .i64 c.pid, .int .i64 c.ep, .int .i64 c.tm, .int .i64 0, .slice none 0 0, .slice none 0 0, .int .i64 0], .int .i64 0]) (rplace_ret ⟨1, c.pid, c.ep, c.tm, 0, [], [], 0⟩ none none 0 0 _ _ (w.heap.size + 1) _ rfl rfl KK.out) rfl ?_
  rw [HE.out, HC.out]
  exact ⟨none, none, 0, 0, rfl, ⟨Reads.none_, Reads.none_, Nat.zero_le _, Nat.zero_le _⟩, BB.out, fun b hb _ _ => ⟨offB_none', offB_none'⟩⟩
set_option maxRecDepth 100000 in
set_option maxHeartbeats 2000000 in
theorem rplace_g (c : Co) (A1 D1 : Option Addr) (c1 e1 : Nat) (l : List Int) (AL : Option Addr) (ml : Nat) (w : World) (h1 : CoR w w.heap.size c A1 D1) (h8 : -128 ≤ c.st) (h9 : c.st ≤ 127) (hr : Reads w w.heap.size 1 AL l.length (cellsI .i64 l)) (hll : l.length ≤ 1000) (hmay : mayB c = true) (kp : partsB l = true) (kst : c.st = 2) (kl : l.length = 0) (kq : ¬ c.qs.length = 0) :
    Calls Tryd.prog 21 #[(.agg #[.int .i8 c.st, .int .i64 c.pid, .int .i64 c.ep, .int .i64 c.tm, .int .i64 c.th, .slice A1 c.ps.length c1, .slice D1 c.qs.length e1, .int .i64 c.ag]), .slice AL l.length ml] w (MvP c A1 D1 (placeC c l) (placeE c l) w) := by
  have HR := Lib.hid hr
  have HE := Lib.hid (show placeE c l = 0 by unfold placeE; rw [if_neg (by rw [hmay, kp]; simp)]; rw [if_neg (by omega)])
  have HC := Lib.hid (show placeC c l = { c with ps := [] } by unfold placeC; rw [if_neg (by rw [HE.out]; decide), if_neg (by omega), if_pos kst, if_neg (by omega), List.eq_nil_of_length_eq_zero kl])
  have RI := Lib.hid (fun W (hb : Below w.heap.size w W) => rise_any AL l ml w.heap.size W (Reads.below hr hb) (by omega))
  rw [riseB_parts, kp] at RI
  have z0 : (c.st == 0) = false := by rw [kst]; rfl
  have z3 : (c.st == 3) = false := by rw [kst]; rfl
  have z4 : (c.st == 4) = false := by rw [kst]; rfl
  have z2 : (c.st == 2) = true := by rw [kst]; rfl
  have zl : ((l.length : Int) == 0) = true := by rw [kl]; rfl
  have zq : ((c.qs.length : Int) == 0) = false := beq_eq_false_iff_ne.2 (by omega)
  have zn : decide ((0 : Int) < (l.length : Int)) = false := decide_eq_false (by omega)
  have zn' : decide (0 < l.length) = false := decide_eq_false (by omega)
  obtain ⟨W0, hW0⟩ : ∃ W0, W0 = (w.alloc (.cells #[.int .i8 c.st, .int .i64 c.pid, .int .i64 c.ep, .int .i64 c.tm, .int .i64 c.th, .slice A1 c.ps.length c1, .slice D1 c.qs.length e1, .int .i64 c.ag] 26)).alloc (.cells #[.int .i8 0, .int .i64 0, .int .i64 0, .int .i64 0, .int .i64 0, .slice none 0 0, .slice none 0 0, .int .i64 0] 26) := ⟨_, rfl⟩
  have s0 : W0.heap.size = w.heap.size + 1 + 1 := by rw [hW0]; simp
  have B0 : Below w.heap.size w W0 := by rw [hW0]; exact bal (bal (Below.refl _ _) _) _
  have K1 : Blk W0 w.heap.size 26 #[.int .i8 c.st, .int .i64 c.pid, .int .i64 c.ep, .int .i64 c.tm, .int .i64 c.th, .slice A1 c.ps.length c1, .slice D1 c.qs.length e1, .int .i64 c.ag] := by rw [hW0]; exact (Blk.new w 26 #[.int .i8 c.st, .int .i64 c.pid, .int .i64 c.ep, .int .i64 c.tm, .int .i64 c.th, .slice A1 c.ps.length c1, .slice D1 c.qs.length e1, .int .i64 c.ag]).alloc _
  have K3 : Blk W0 (w.heap.size + 1) 26 #[.int .i8 0, .int .i64 0, .int .i64 0, .int .i64 0, .int .i64 0, .slice none 0 0, .slice none 0 0, .int .i64 0] := by rw [hW0]; exact bk_new _ 26 #[.int .i8 0, .int .i64 0, .int .i64 0, .int .i64 0, .int .i64 0, .slice none 0 0, .slice none 0 0, .int .i64 0] (by simp)
  have HW := Lib.hid hW0
  have HS := Lib.hid s0
  have HB := Lib.hid B0
  have HK1 := Lib.hid K1
  have HK3 := Lib.hid K3
  have H1 := Lib.hid h1
  have MY := Lib.hid (rMay_any c A1 D1 c1 e1 w.heap.size W0 (h1.below B0) B0.size h8 h9)
  rw [hmay] at MY
  have L0 := bk_load (P := Tryd.prog) 8 K1 rfl
  clear hW0 s0 B0 K1 K3 h1 h8 h9 hmay hr hll kp kst kl kq
  go_enter Tryd.func21, Tryd.ntmps21
  go_upto_region 1 with (fail)
  rw [← HW.out]
  go_wp2_with fail
  refine MY.out.mono ?_
  rintro e w1 ⟨rfl, b1⟩
  have B1 := Lib.hid (show Below W0.heap.size W0 w1 from b1)
  have kx := HK1.out.below b1 (by have := HS.out; omega)
  have x0 := kx.cell 0
  have x1 := kx.cell 1
  have x2 := kx.cell 2
  have x3 := kx.cell 3
  have x4 := kx.cell 4
  have x5 := kx.cell 5
  have x6 := kx.cell 6
  have L1 := bk_load (P := Tryd.prog) 8 kx rfl
  clear L0 b1 kx
  go_wp2_with fail
  refine (RI.out _ (HB.out.trans (B1.out.mono HB.out.size))).mono ?_
  rintro e w9 ⟨rfl, rfl⟩

  have kx := HK1.out.below B1.out (by have := HS.out; omega)
  have st5 := store_slI none 0 0 (kx.cell 5) (kx.frozen 5)
  have k5 : Blk (w1.setCell ⟨w.heap.size, 5, none⟩ (.slice none 0 0)) w.heap.size 26 #[.int .i8 c.st, .int .i64 c.pid, .int .i64 c.ep, .int .i64 c.tm, .int .i64 c.th, .slice none 0 0, .slice D1 c.qs.length e1, .int .i64 c.ag] := kx.set_ 5 (.slice none 0 0)
  have k35 := (HK3.out.below B1.out (by have := HS.out; omega)).far (p := ⟨w.heap.size, 5, none⟩) (by simp) (.slice none 0 0)
  have b5 := (HB.out.trans (B1.out.mono HB.out.size)).setCell (p := ⟨w.heap.size, 5, none⟩) (Nat.le_refl _) (.slice none 0 0)
  have L5 := bk_load (P := Tryd.prog) 8 k5 rfl
  have K35 := Lib.hid k35
  have B5 := Lib.hid b5
  clear kx k5 k35 b5
  go_upto_region 17 with (fail)
  clear st5 x0 x1 x2 x3 x4 x5 x6 L1
  generalize w1.setCell ⟨w.heap.size, 5, none⟩ (.slice none 0 0) = W8 at *
  obtain ⟨W9, st9, kk, fb, fh, fs⟩ := bk_store (P := Tryd.prog) (ty := 26) (cs := #[.int .i8 c.st, .int .i64 c.pid, .int .i64 c.ep, .int .i64 c.tm, .int .i64 c.th, .slice none 0 0, .slice D1 c.qs.length e1, .int .i64 c.ag]) 8 K35.out infoCo rfl rfl (by simp [Value.oneCell'])
  have BB := Lib.hid (fb w.heap.size w (by omega) B5.out)
  have KK := Lib.hid kk
  clear kk fb fh fs
  go_wp2_with fail
  refine bodyPost_ret (v := .tuple #[.agg #[.int .i8 c.st, .int .i64 c.pid, .int .i64 c.ep, .int .i64 c.tm, .int .i64 c.th, .slice none 0 0, .slice D1 c.qs.length e1, .int .i64 c.ag], .int .i64 0]) (rplace_ret { c with ps := [] } none D1 0 e1 0 _ (w.heap.size + 1) _ rfl rfl KK.out) rfl ?_
  rw [HE.out, HC.out]
  have rr := H1.out.up BB.out
  exact ⟨none, D1, 0, e1, rfl, ⟨Reads.none_, rr.2.1, Nat.zero_le _, rr.2.2.2⟩, BB.out, fun b hb o1 o2 => ⟨offB_none', o2⟩⟩
set_option maxRecDepth 100000 in
set_option maxHeartbeats 2000000 in
theorem rplace_i (c : Co) (A1 D1 : Option Addr) (c1 e1 : Nat) (l : List Int) (AL : Option Addr) (ml : Nat) (w : World) (h1 : CoR w w.heap.size c A1 D1) (h8 : -128 ≤ c.st) (h9 : c.st ≤ 127) (hr : Reads w w.heap.size 1 AL l.length (cellsI .i64 l)) (hll : l.length ≤ 1000) (hmay : mayB c = true) (kp : partsB l = true) (ki : c.st = 1 ∨ c.st = 5 ∨ c.st = 6) (kl : l.length = 0) :
    Calls Tryd.prog 21 #[(.agg #[.int .i8 c.st, .int .i64 c.pid, .int .i64 c.ep, .int .i64 c.tm, .int .i64 c.th, .slice A1 c.ps.length c1, .slice D1 c.qs.length e1, .int .i64 c.ag]), .slice AL l.length ml] w (MvP c A1 D1 (placeC c l) (placeE c l) w) := by
  have HR := Lib.hid hr
  have HE := Lib.hid (show placeE c l = 0 by unfold placeE; rw [if_neg (by rw [hmay, kp]; simp)]; rw [if_neg (by omega)])
  have HC := Lib.hid (show placeC c l = { c with ps := [] } by unfold placeC; rw [if_neg (by rw [HE.out]; decide), if_neg (by omega), if_neg (by omega), if_neg (by omega), List.eq_nil_of_length_eq_zero kl])
  have RI := Lib.hid (fun W (hb : Below w.heap.size w W) => rise_any AL l ml w.heap.size W (Reads.below hr hb) (by omega))
  rw [riseB_parts, kp] at RI
  have z0 : (c.st == 0) = false := by simp; omega
  have z3 : (c.st == 3) = false := by simp; omega
  have z4 : (c.st == 4) = false := by simp; omega
  have z2 : (c.st == 2) = false := by simp; omega
  have zn : decide ((0 : Int) < (l.length : Int)) = false := decide_eq_false (by omega)
  have zn' : decide (0 < l.length) = false := decide_eq_false (by omega)
  obtain ⟨W0, hW0⟩ : ∃ W0, W0 = (w.alloc (.cells #[.int .i8 c.st, .int .i64 c.pid, .int .i64 c.ep, .int .i64 c.tm, .int .i64 c.th, .slice A1 c.ps.length c1, .slice D1 c.qs.length e1, .int .i64 c.ag] 26)).alloc (.cells #[.int .i8 0, .int .i64 0, .int .i64 0, .int .i64 0, .int .i64 0, .slice none 0 0, .slice none 0 0, .int .i64 0] 26) := ⟨_, rfl⟩
  have s0 : W0.heap.size = w.heap.size + 1 + 1 := by rw [hW0]; simp
  have B0 : Below w.heap.size w W0 := by rw [hW0]; exact bal (bal (Below.refl _ _) _) _
  have K1 : Blk W0 w.heap.size 26 #[.int .i8 c.st, .int .i64 c.pid, .int .i64 c.ep, .int .i64 c.tm, .int .i64 c.th, .slice A1 c.ps.length c1, .slice D1 c.qs.length e1, .int .i64 c.ag] := by rw [hW0]; exact (Blk.new w 26 #[.int .i8 c.st, .int .i64 c.pid, .int .i64 c.ep, .int .i64 c.tm, .int .i64 c.th, .slice A1 c.ps.length c1, .slice D1 c.qs.length e1, .int .i64 c.ag]).alloc _
  have K3 : Blk W0 (w.heap.size + 1) 26 #[.int .i8 0, .int .i64 0, .int .i64 0, .int .i64 0, .int .i64 0, .slice none 0 0, .slice none 0 0, .int .i64 0] := by rw [hW0]; exact bk_new _ 26 #[.int .i8 0, .int .i64 0, .int .i64 0, .int .i64 0, .int .i64 0, .slice none 0 0, .slice none 0 0, .int .i64 0] (by simp)
  have HW := Lib.hid hW0
  have HS := Lib.hid s0
  have HB := Lib.hid B0
  have HK1 := Lib.hid K1
  have HK3 := Lib.hid K3
  have H1 := Lib.hid h1
  have MY := Lib.hid (rMay_any c A1 D1 c1 e1 w.heap.size W0 (h1.below B0) B0.size h8 h9)
  rw [hmay] at MY
  have L0 := bk_load (P := Tryd.prog) 8 K1 rfl
  clear hW0 s0 B0 K1 K3 h1 h8 h9 hmay hr hll kp ki kl
  go_enter Tryd.func21, Tryd.ntmps21
  go_upto_region 1 with (fail)
  rw [← HW.out]
  go_wp2_with fail
  refine MY.out.mono ?_
  rintro e w1 ⟨rfl, b1⟩
  have B1 := Lib.hid (show Below W0.heap.size W0 w1 from b1)
  have kx := HK1.out.below b1 (by have := HS.out; omega)
  have x0 := kx.cell 0
  have x1 := kx.cell 1
  have x2 := kx.cell 2
  have x3 := kx.cell 3
  have x4 := kx.cell 4
  have x5 := kx.cell 5
  have x6 := kx.cell 6
  have L1 := bk_load (P := Tryd.prog) 8 kx rfl
  clear L0 b1 kx
  go_wp2_with fail
  refine (RI.out _ (HB.out.trans (B1.out.mono HB.out.size))).mono ?_
  rintro e w9 ⟨rfl, rfl⟩

  have kx := HK1.out.below B1.out (by have := HS.out; omega)
  have st5 := store_slI none 0 0 (kx.cell 5) (kx.frozen 5)
  have k5 : Blk (w1.setCell ⟨w.heap.size, 5, none⟩ (.slice none 0 0)) w.heap.size 26 #[.int .i8 c.st, .int .i64 c.pid, .int .i64 c.ep, .int .i64 c.tm, .int .i64 c.th, .slice none 0 0, .slice D1 c.qs.length e1, .int .i64 c.ag] := kx.set_ 5 (.slice none 0 0)
  have k35 := (HK3.out.below B1.out (by have := HS.out; omega)).far (p := ⟨w.heap.size, 5, none⟩) (by simp) (.slice none 0 0)
  have b5 := (HB.out.trans (B1.out.mono HB.out.size)).setCell (p := ⟨w.heap.size, 5, none⟩) (Nat.le_refl _) (.slice none 0 0)
  have L5 := bk_load (P := Tryd.prog) 8 k5 rfl
  have K35 := Lib.hid k35
  have B5 := Lib.hid b5
  clear kx k5 k35 b5
  go_upto_region 17 with (fail)
  clear st5 x0 x1 x2 x3 x4 x5 x6 L1
  generalize w1.setCell ⟨w.heap.size, 5, none⟩ (.slice none 0 0) = W8 at *
  obtain ⟨W9, st9, kk, fb, fh, fs⟩ := bk_store (P := Tryd.prog) (ty := 26) (cs := #[.int .i8 c.st, .int .i64 c.pid, .int .i64 c.ep, .int .i64 c.tm, .int .i64 c.th, .slice none 0 0, .slice D1 c.qs.length e1, .int .i64 c.ag]) 8 K35.out infoCo rfl rfl (by simp [Value.oneCell'])
  have BB := Lib.hid (fb w.heap.size w (by omega) B5.out)
  have KK := Lib.hid kk
  clear kk fb fh fs
  go_wp2_with fail
  refine bodyPost_ret (v := .tuple #[.agg #[.int .i8 c.st, .int .i64 c.pid, .int .i64 c.ep, .int .i64 c.tm, .int .i64 c.th, .slice none 0 0, .slice D1 c.qs.length e1, .int .i64 c.ag], .int .i64 0]) (rplace_ret { c with ps := [] } none D1 0 e1 0 _ (w.heap.size + 1) _ rfl rfl KK.out) rfl ?_
  rw [HE.out, HC.out]
  have rr := H1.out.up BB.out
  exact ⟨none, D1, 0, e1, rfl, ⟨Reads.none_, rr.2.1, Nat.zero_le _, rr.2.2.2⟩, BB.out, fun b hb o1 o2 => ⟨offB_none', o2⟩⟩
set_option maxRecDepth 100000 in
set_option maxHeartbeats 2000000 in
theorem rplace_e3 (c : Co) (A1 D1 : Option Addr) (c1 e1 : Nat) (l : List Int) (AL : Option Addr) (ml : Nat) (w : World) (h1 : CoR w w.heap.size c A1 D1) (h8 : -128 ≤ c.st) (h9 : c.st ≤ 127) (hr : Reads w w.heap.size 1 AL l.length (cellsI .i64 l)) (hll : l.length ≤ 1000) (hmay : mayB c = true) (kp : partsB l = true) (kst : c.st = 3) :
    Calls Tryd.prog 21 #[(.agg #[.int .i8 c.st, .int .i64 c.pid, .int .i64 c.ep, .int .i64 c.tm, .int .i64 c.th, .slice A1 c.ps.length c1, .slice D1 c.qs.length e1, .int .i64 c.ag]), .slice AL l.length ml] w (MvP c A1 D1 (placeC c l) (placeE c l) w) := by
  have HR := Lib.hid hr
  have HLL := Lib.hid hll
  have HE := Lib.hid (show placeE c l = 0 by unfold placeE; rw [if_neg (by rw [hmay, kp]; simp)]; rw [if_neg (by omega)])
  have HC := Lib.hid (show placeC c l = { c with ps := l } by unfold placeC; rw [if_neg (by rw [HE.out]; decide), if_pos (by omega)])
  have RI := Lib.hid (fun W (hb : Below w.heap.size w W) => rise_any AL l ml w.heap.size W (Reads.below hr hb) (by omega))
  rw [riseB_parts, kp] at RI
  have z0 : (c.st == 0) = false := by rw [kst]; rfl
  have z3 : (c.st == 3) = true := by rw [kst]; rfl
  have z4 : (c.st == 4) = false := by rw [kst]; rfl
  have z2 : (c.st == 2) = false := by rw [kst]; rfl

  obtain ⟨W0, hW0⟩ : ∃ W0, W0 = (w.alloc (.cells #[.int .i8 c.st, .int .i64 c.pid, .int .i64 c.ep, .int .i64 c.tm, .int .i64 c.th, .slice A1 c.ps.length c1, .slice D1 c.qs.length e1, .int .i64 c.ag] 26)).alloc (.cells #[.int .i8 0, .int .i64 0, .int .i64 0, .int .i64 0, .int .i64 0, .slice none 0 0, .slice none 0 0, .int .i64 0] 26) := ⟨_, rfl⟩
  have s0 : W0.heap.size = w.heap.size + 1 + 1 := by rw [hW0]; simp
  have B0 : Below w.heap.size w W0 := by rw [hW0]; exact bal (bal (Below.refl _ _) _) _
  have K1 : Blk W0 w.heap.size 26 #[.int .i8 c.st, .int .i64 c.pid, .int .i64 c.ep, .int .i64 c.tm, .int .i64 c.th, .slice A1 c.ps.length c1, .slice D1 c.qs.length e1, .int .i64 c.ag] := by rw [hW0]; exact (Blk.new w 26 #[.int .i8 c.st, .int .i64 c.pid, .int .i64 c.ep, .int .i64 c.tm, .int .i64 c.th, .slice A1 c.ps.length c1, .slice D1 c.qs.length e1, .int .i64 c.ag]).alloc _
  have K3 : Blk W0 (w.heap.size + 1) 26 #[.int .i8 0, .int .i64 0, .int .i64 0, .int .i64 0, .int .i64 0, .slice none 0 0, .slice none 0 0, .int .i64 0] := by rw [hW0]; exact bk_new _ 26 #[.int .i8 0, .int .i64 0, .int .i64 0, .int .i64 0, .int .i64 0, .slice none 0 0, .slice none 0 0, .int .i64 0] (by simp)
  have HW := Lib.hid hW0
  have HS := Lib.hid s0
  have HB := Lib.hid B0
  have HK1 := Lib.hid K1
  have HK3 := Lib.hid K3
  have H1 := Lib.hid h1
  have MY := Lib.hid (rMay_any c A1 D1 c1 e1 w.heap.size W0 (h1.below B0) B0.size h8 h9)
  rw [hmay] at MY
  have L0 := bk_load (P := Tryd.prog) 8 K1 rfl
  clear hW0 s0 B0 K1 K3 h1 h8 h9 hmay hr kp kst
  go_enter Tryd.func21, Tryd.ntmps21
  go_upto_region 1 with (fail)
  rw [← HW.out]
  go_wp2_with fail
  refine MY.out.mono ?_
  rintro e w1 ⟨rfl, b1⟩
  have B1 := Lib.hid (show Below W0.heap.size W0 w1 from b1)
  have kx := HK1.out.below b1 (by have := HS.out; omega)
  have x0 := kx.cell 0
  have x1 := kx.cell 1
  have x2 := kx.cell 2
  have x3 := kx.cell 3
  have x4 := kx.cell 4
  have x5 := kx.cell 5
  have x6 := kx.cell 6
  have L1 := bk_load (P := Tryd.prog) 8 kx rfl
  clear L0 b1 kx
  go_wp2_with fail
  refine (RI.out _ (HB.out.trans (B1.out.mono HB.out.size))).mono ?_
  rintro e w9 ⟨rfl, rfl⟩

  obtain ⟨i0, hi0, hz0, hz1, hz2⟩ := info_parts infoI
  have kx := HK1.out.below B1.out (by have := HS.out; omega)
  have st5 := store_slI none 0 0 (kx.cell 5) (kx.frozen 5)
  have k5 : Blk (w1.setCell ⟨w.heap.size, 5, none⟩ (.slice none 0 0)) w.heap.size 26 #[.int .i8 c.st, .int .i64 c.pid, .int .i64 c.ep, .int .i64 c.tm, .int .i64 c.th, .slice none 0 0, .slice D1 c.qs.length e1, .int .i64 c.ag] := kx.set_ 5 (.slice none 0 0)
  have k35 := (HK3.out.below B1.out (by have := HS.out; omega)).far (p := ⟨w.heap.size, 5, none⟩) (by simp) (.slice none 0 0)
  have b5 := (HB.out.trans (B1.out.mono HB.out.size)).setCell (p := ⟨w.heap.size, 5, none⟩) (Nat.le_refl _) (.slice none 0 0)
  have x5' := k5.cell 5
  have KA := Lib.hid k5
  have KC := Lib.hid k35
  have BA := Lib.hid b5
  clear kx k5 k35 b5
  go_upto_region 9 with (fail)
  clear x0 x1 x2 x3 x4 x5 x6 L1 st5
  generalize (w1.setCell ⟨w.heap.size, 5, none⟩ (.slice none 0 0)) = W8 at *
  go_wp2_with (at_builtin; refine wpList_append_any _ rfl (.tmp 33) (.tmp 34) 23 rfl W8.heap.size 3 i0 (.int .i64 0) 1 8 Tryd.underlying23 hi0 hz0 hz1 hz2 rfl (by decide) (.slice none 0 0) 0 [] rfl (World.ownsRow_nil _ _ _ _) w.heap.size AL l.length ml (cellsI .i64 l) rfl (HR.out.below BA.out) (cellsI_one _) (by unfold maxLen; omega) (by omega) (Nat.le_refl _) ?_; intro v3 W3 hown3 hg3 hat3; rw [Nat.zero_add, List.nil_append] at hown3; obtain ⟨A3, c3, rfl, hc3⟩ := own_slice hown3; have k3' := KA.out.grown hg3 (by simp [Value.ownBlock]); have st7 := store_slI A3 l.length c3 (k3'.cell 5) (k3'.frozen 5); have kz : Blk (W3.setCell ⟨w.heap.size, 5, none⟩ (.slice A3 l.length c3)) w.heap.size 26 #[.int .i8 c.st, .int .i64 c.pid, .int .i64 c.ep, .int .i64 c.tm, .int .i64 c.th, .slice A3 l.length c3, .slice D1 c.qs.length e1, .int .i64 c.ag] := k3'.set_ 5 (.slice A3 l.length c3); have L7 := bk_load (P := Tryd.prog) 8 kz rfl; have k37 := (KC.out.grown hg3 (by simp [Value.ownBlock])).far (p := ⟨w.heap.size, 5, none⟩) (by simp) (.slice A3 l.length c3); have b7 := (BA.out.grown hg3 BA.out.size (fun k e => by simp [Value.ownBlock] at e)).setCell (p := ⟨w.heap.size, 5, none⟩) (Nat.le_refl _) (.slice A3 l.length c3); have o7 := bk_own (w' := W3.setCell ⟨w.heap.size, 5, none⟩ (.slice A3 l.length c3)) hown3 (fun y hy => Below.heap_setCell _ _ _ _ (by have := (hown3.lt y hy).1; have := BA.out.size; have := KC.out.lt; show y ≠ w.heap.size; omega)); obtain ⟨W9, st9, kk, fb, fh, fs⟩ := bk_store (P := Tryd.prog) (ty := 26) (cs := #[.int .i8 c.st, .int .i64 c.pid, .int .i64 c.ep, .int .i64 c.tm, .int .i64 c.th, .slice A3 l.length c3, .slice D1 c.qs.length e1, .int .i64 c.ag]) 8 k37 infoCo rfl rfl (by simp [Value.oneCell']); have BB := Lib.hid (fb w.heap.size w (by omega) b7); have OO := Lib.hid (bk_own o7 (fun y hy => fh y (by have := (hown3.lt y hy).1; have := KC.out.lt; omega))); have KK := Lib.hid kk; have HL8 := Lib.hid (show w.heap.size ≤ W8.heap.size from BA.out.size); clear k3' kz k37 b7 o7 kk fb fh fs)
  refine bodyPost_ret (v := .tuple #[.agg #[.int .i8 c.st, .int .i64 c.pid, .int .i64 c.ep, .int .i64 c.tm, .int .i64 c.th, .slice A3 l.length c3, .slice D1 c.qs.length e1, .int .i64 c.ag], .int .i64 0]) (rplace_ret { c with ps := l } A3 D1 c3 e1 0 _ (w.heap.size + 1) _ rfl rfl KK.out) rfl ?_
  rw [HE.out, HC.out]
  have rr := H1.out.up BB.out
  have na := newAt_of_own OO.out
  exact ⟨A3, D1, c3, e1, rfl, ⟨Reads.of_own OO.out, rr.2.1, HLL.out, rr.2.2.2⟩, BB.out, fun b hb o1 o2 => ⟨na.off (by have := HL8.out; omega), o2⟩⟩
set_option maxRecDepth 100000 in
set_option maxHeartbeats 2000000 in
theorem rplace_e4 (c : Co) (A1 D1 : Option Addr) (c1 e1 : Nat) (l : List Int) (AL : Option Addr) (ml : Nat) (w : World) (h1 : CoR w w.heap.size c A1 D1) (h8 : -128 ≤ c.st) (h9 : c.st ≤ 127) (hr : Reads w w.heap.size 1 AL l.length (cellsI .i64 l)) (hll : l.length ≤ 1000) (hmay : mayB c = true) (kp : partsB l = true) (kst : c.st = 4) :
    Calls Tryd.prog 21 #[(.agg #[.int .i8 c.st, .int .i64 c.pid, .int .i64 c.ep, .int .i64 c.tm, .int .i64 c.th, .slice A1 c.ps.length c1, .slice D1 c.qs.length e1, .int .i64 c.ag]), .slice AL l.length ml] w (MvP c A1 D1 (placeC c l) (placeE c l) w) := by
  have HR := Lib.hid hr
  have HLL := Lib.hid hll
  have HE := Lib.hid (show placeE c l = 0 by unfold placeE; rw [if_neg (by rw [hmay, kp]; simp)]; rw [if_neg (by omega)])
  have HC := Lib.hid (show placeC c l = { c with ps := l } by unfold placeC; rw [if_neg (by rw [HE.out]; decide), if_pos (by omega)])
  have RI := Lib.hid (fun W (hb : Below w.heap.size w W) => rise_any AL l ml w.heap.size W (Reads.below hr hb) (by omega))
  rw [riseB_parts, kp] at RI
  have z0 : (c.st == 0) = false := by rw [kst]; rfl
  have z3 : (c.st == 3) = false := by rw [kst]; rfl
  have z4 : (c.st == 4) = true := by rw [kst]; rfl
  have z2 : (c.st == 2) = false := by rw [kst]; rfl

  obtain ⟨W0, hW0⟩ : ∃ W0, W0 = (w.alloc (.cells #[.int .i8 c.st, .int .i64 c.pid, .int .i64 c.ep, .int .i64 c.tm, .int .i64 c.th, .slice A1 c.ps.length c1, .slice D1 c.qs.length e1, .int .i64 c.ag] 26)).alloc (.cells #[.int .i8 0, .int .i64 0, .int .i64 0, .int .i64 0, .int .i64 0, .slice none 0 0, .slice none 0 0, .int .i64 0] 26) := ⟨_, rfl⟩
  have s0 : W0.heap.size = w.heap.size + 1 + 1 := by rw [hW0]; simp
  have B0 : Below w.heap.size w W0 := by rw [hW0]; exact bal (bal (Below.refl _ _) _) _
  have K1 : Blk W0 w.heap.size 26 #[.int .i8 c.st, .int .i64 c.pid, .int .i64 c.ep, .int .i64 c.tm, .int .i64 c.th, .slice A1 c.ps.length c1, .slice D1 c.qs.length e1, .int .i64 c.ag] := by rw [hW0]; exact (Blk.new w 26 #[.int .i8 c.st, .int .i64 c.pid, .int .i64 c.ep, .int .i64 c.tm, .int .i64 c.th, .slice A1 c.ps.length c1, .slice D1 c.qs.length e1, .int .i64 c.ag]).alloc _
  have K3 : Blk W0 (w.heap.size + 1) 26 #[.int .i8 0, .int .i64 0, .int .i64 0, .int .i64 0, .int .i64 0, .slice none 0 0, .slice none 0 0, .int .i64 0] := by rw [hW0]; exact bk_new _ 26 #[.int .i8 0, .int .i64 0, .int .i64 0, .int .i64 0, .int .i64 0, .slice none 0 0, .slice none 0 0, .int .i64 0] (by simp)
  have HW := Lib.hid hW0
  have HS := Lib.hid s0
  have HB := Lib.hid B0
  have HK1 := Lib.hid K1
  have HK3 := Lib.hid K3
  have H1 := Lib.hid h1
  have MY := Lib.hid (rMay_any c A1 D1 c1 e1 w.heap.size W0 (h1.below B0) B0.size h8 h9)
  rw [hmay] at MY
  have L0 := bk_load (P := Tryd.prog) 8 K1 rfl
  clear hW0 s0 B0 K1 K3 h1 h8 h9 hmay hr kp kst
  go_enter Tryd.func21, Tryd.ntmps21
  go_upto_region 1 with (fail)
  rw [← HW.out]
  go_wp2_with fail
  refine MY.out.mono ?_
  rintro e w1 ⟨rfl, b1⟩
  have B1 := Lib.hid (show Below W0.heap.size W0 w1 from b1)
  have kx := HK1.out.below b1 (by have := HS.out; omega)
  have x0 := kx.cell 0
  have x1 := kx.cell 1
  have x2 := kx.cell 2
  have x3 := kx.cell 3
  have x4 := kx.cell 4
  have x5 := kx.cell 5
  have x6 := kx.cell 6
  have L1 := bk_load (P := Tryd.prog) 8 kx rfl
  clear L0 b1 kx
  go_wp2_with fail
  refine (RI.out _ (HB.out.trans (B1.out.mono HB.out.size))).mono ?_
  rintro e w9 ⟨rfl, rfl⟩

  obtain ⟨i0, hi0, hz0, hz1, hz2⟩ := info_parts infoI
  have kx := HK1.out.below B1.out (by have := HS.out; omega)
  have st5 := store_slI none 0 0 (kx.cell 5) (kx.frozen 5)
  have k5 : Blk (w1.setCell ⟨w.heap.size, 5, none⟩ (.slice none 0 0)) w.heap.size 26 #[.int .i8 c.st, .int .i64 c.pid, .int .i64 c.ep, .int .i64 c.tm, .int .i64 c.th, .slice none 0 0, .slice D1 c.qs.length e1, .int .i64 c.ag] := kx.set_ 5 (.slice none 0 0)
  have k35 := (HK3.out.below B1.out (by have := HS.out; omega)).far (p := ⟨w.heap.size, 5, none⟩) (by simp) (.slice none 0 0)
  have b5 := (HB.out.trans (B1.out.mono HB.out.size)).setCell (p := ⟨w.heap.size, 5, none⟩) (Nat.le_refl _) (.slice none 0 0)
  have x5' := k5.cell 5
  have KA := Lib.hid k5
  have KC := Lib.hid k35
  have BA := Lib.hid b5
  clear kx k5 k35 b5
  go_upto_region 9 with (fail)
  clear x0 x1 x2 x3 x4 x5 x6 L1 st5
  generalize (w1.setCell ⟨w.heap.size, 5, none⟩ (.slice none 0 0)) = W8 at *
  go_wp2_with (at_builtin; refine wpList_append_any _ rfl (.tmp 33) (.tmp 34) 23 rfl W8.heap.size 3 i0 (.int .i64 0) 1 8 Tryd.underlying23 hi0 hz0 hz1 hz2 rfl (by decide) (.slice none 0 0) 0 [] rfl (World.ownsRow_nil _ _ _ _) w.heap.size AL l.length ml (cellsI .i64 l) rfl (HR.out.below BA.out) (cellsI_one _) (by unfold maxLen; omega) (by omega) (Nat.le_refl _) ?_; intro v3 W3 hown3 hg3 hat3; rw [Nat.zero_add, List.nil_append] at hown3; obtain ⟨A3, c3, rfl, hc3⟩ := own_slice hown3; have k3' := KA.out.grown hg3 (by simp [Value.ownBlock]); have st7 := store_slI A3 l.length c3 (k3'.cell 5) (k3'.frozen 5); have kz : Blk (W3.setCell ⟨w.heap.size, 5, none⟩ (.slice A3 l.length c3)) w.heap.size 26 #[.int .i8 c.st, .int .i64 c.pid, .int .i64 c.ep, .int .i64 c.tm, .int .i64 c.th, .slice A3 l.length c3, .slice D1 c.qs.length e1, .int .i64 c.ag] := k3'.set_ 5 (.slice A3 l.length c3); have L7 := bk_load (P := Tryd.prog) 8 kz rfl; have k37 := (KC.out.grown hg3 (by simp [Value.ownBlock])).far (p := ⟨w.heap.size, 5, none⟩) (by simp) (.slice A3 l.length c3); have b7 := (BA.out.grown hg3 BA.out.size (fun k e => by simp [Value.ownBlock] at e)).setCell (p := ⟨w.heap.size, 5, none⟩) (Nat.le_refl _) (.slice A3 l.length c3); have o7 := bk_own (w' := W3.setCell ⟨w.heap.size, 5, none⟩ (.slice A3 l.length c3)) hown3 (fun y hy => Below.heap_setCell _ _ _ _ (by have := (hown3.lt y hy).1; have := BA.out.size; have := KC.out.lt; show y ≠ w.heap.size; omega)); obtain ⟨W9, st9, kk, fb, fh, fs⟩ := bk_store (P := Tryd.prog) (ty := 26) (cs := #[.int .i8 c.st, .int .i64 c.pid, .int .i64 c.ep, .int .i64 c.tm, .int .i64 c.th, .slice A3 l.length c3, .slice D1 c.qs.length e1, .int .i64 c.ag]) 8 k37 infoCo rfl rfl (by simp [Value.oneCell']); have BB := Lib.hid (fb w.heap.size w (by omega) b7); have OO := Lib.hid (bk_own o7 (fun y hy => fh y (by have := (hown3.lt y hy).1; have := KC.out.lt; omega))); have KK := Lib.hid kk; have HL8 := Lib.hid (show w.heap.size ≤ W8.heap.size from BA.out.size); clear k3' kz k37 b7 o7 kk fb fh fs)
  refine bodyPost_ret (v := .tuple #[.agg #[.int .i8 c.st, .int .i64 c.pid, .int .i64 c.ep, .int .i64 c.tm, .int .i64 c.th, .slice A3 l.length c3, .slice D1 c.qs.length e1, .int .i64 c.ag], .int .i64 0]) (rplace_ret { c with ps := l } A3 D1 c3 e1 0 _ (w.heap.size + 1) _ rfl rfl KK.out) rfl ?_
  rw [HE.out, HC.out]
  have rr := H1.out.up BB.out
  have na := newAt_of_own OO.out
  exact ⟨A3, D1, c3, e1, rfl, ⟨Reads.of_own OO.out, rr.2.1, HLL.out, rr.2.2.2⟩, BB.out, fun b hb o1 o2 => ⟨na.off (by have := HL8.out; omega), o2⟩⟩
set_option maxRecDepth 100000 in
set_option maxHeartbeats 2000000 in
theorem rplace_h (c : Co) (A1 D1 : Option Addr) (c1 e1 : Nat) (l : List Int) (AL : Option Addr) (ml : Nat) (w : World) (h1 : CoR w w.heap.size c A1 D1) (h8 : -128 ≤ c.st) (h9 : c.st ≤ 127) (hr : Reads w w.heap.size 1 AL l.length (cellsI .i64 l)) (hll : l.length ≤ 1000) (hmay : mayB c = true) (kp : partsB l = true) (kst : c.st = 2) (kl : 0 < l.length) :
    Calls Tryd.prog 21 #[(.agg #[.int .i8 c.st, .int .i64 c.pid, .int .i64 c.ep, .int .i64 c.tm, .int .i64 c.th, .slice A1 c.ps.length c1, .slice D1 c.qs.length e1, .int .i64 c.ag]), .slice AL l.length ml] w (MvP c A1 D1 (placeC c l) (placeE c l) w) := by
  have HR := Lib.hid hr
  have HLL := Lib.hid hll
  have HE := Lib.hid (show placeE c l = 0 by unfold placeE; rw [if_neg (by rw [hmay, kp]; simp)]; rw [if_neg (by omega)])
  have HC := Lib.hid (show placeC c l = { c with st := 2, ps := l } by unfold placeC; rw [if_neg (by rw [HE.out]; decide), if_neg (by omega), if_pos kst, if_neg (by omega)]; cases c; cases kst; rfl)
  have RI := Lib.hid (fun W (hb : Below w.heap.size w W) => rise_any AL l ml w.heap.size W (Reads.below hr hb) (by omega))
  rw [riseB_parts, kp] at RI
  have z0 : (c.st == 0) = false := by rw [kst]; rfl
  have z3 : (c.st == 3) = false := by rw [kst]; rfl
  have z4 : (c.st == 4) = false := by rw [kst]; rfl
  have z2 : (c.st == 2) = true := by rw [kst]; rfl
  have zl : ((l.length : Int) == 0) = false := beq_eq_false_iff_ne.2 (by omega)
  have zn : decide ((0 : Int) < (l.length : Int)) = true := decide_eq_true (by omega)
  have zn' : decide (0 < l.length) = true := decide_eq_true (by omega)
  obtain ⟨W0, hW0⟩ : ∃ W0, W0 = (w.alloc (.cells #[.int .i8 c.st, .int .i64 c.pid, .int .i64 c.ep, .int .i64 c.tm, .int .i64 c.th, .slice A1 c.ps.length c1, .slice D1 c.qs.length e1, .int .i64 c.ag] 26)).alloc (.cells #[.int .i8 0, .int .i64 0, .int .i64 0, .int .i64 0, .int .i64 0, .slice none 0 0, .slice none 0 0, .int .i64 0] 26) := ⟨_, rfl⟩
  have s0 : W0.heap.size = w.heap.size + 1 + 1 := by rw [hW0]; simp
  have B0 : Below w.heap.size w W0 := by rw [hW0]; exact bal (bal (Below.refl _ _) _) _
  have K1 : Blk W0 w.heap.size 26 #[.int .i8 c.st, .int .i64 c.pid, .int .i64 c.ep, .int .i64 c.tm, .int .i64 c.th, .slice A1 c.ps.length c1, .slice D1 c.qs.length e1, .int .i64 c.ag] := by rw [hW0]; exact (Blk.new w 26 #[.int .i8 c.st, .int .i64 c.pid, .int .i64 c.ep, .int .i64 c.tm, .int .i64 c.th, .slice A1 c.ps.length c1, .slice D1 c.qs.length e1, .int .i64 c.ag]).alloc _
  have K3 : Blk W0 (w.heap.size + 1) 26 #[.int .i8 0, .int .i64 0, .int .i64 0, .int .i64 0, .int .i64 0, .slice none 0 0, .slice none 0 0, .int .i64 0] := by rw [hW0]; exact bk_new _ 26 #[.int .i8 0, .int .i64 0, .int .i64 0, .int .i64 0, .int .i64 0, .slice none 0 0, .slice none 0 0, .int .i64 0] (by simp)
  have HW := Lib.hid hW0
  have HS := Lib.hid s0
  have HB := Lib.hid B0
  have HK1 := Lib.hid K1
  have HK3 := Lib.hid K3
  have H1 := Lib.hid h1
  have MY := Lib.hid (rMay_any c A1 D1 c1 e1 w.heap.size W0 (h1.below B0) B0.size h8 h9)
  rw [hmay] at MY
  have L0 := bk_load (P := Tryd.prog) 8 K1 rfl
  clear hW0 s0 B0 K1 K3 h1 h8 h9 hmay hr kp kst kl
  go_enter Tryd.func21, Tryd.ntmps21
  go_upto_region 1 with (fail)
  rw [← HW.out]
  go_wp2_with fail
  refine MY.out.mono ?_
  rintro e w1 ⟨rfl, b1⟩
  have B1 := Lib.hid (show Below W0.heap.size W0 w1 from b1)
  have kx := HK1.out.below b1 (by have := HS.out; omega)
  have x0 := kx.cell 0
  have x1 := kx.cell 1
  have x2 := kx.cell 2
  have x3 := kx.cell 3
  have x4 := kx.cell 4
  have x5 := kx.cell 5
  have x6 := kx.cell 6
  have L1 := bk_load (P := Tryd.prog) 8 kx rfl
  clear L0 b1 kx
  go_wp2_with fail
  refine (RI.out _ (HB.out.trans (B1.out.mono HB.out.size))).mono ?_
  rintro e w9 ⟨rfl, rfl⟩

  obtain ⟨i0, hi0, hz0, hz1, hz2⟩ := info_parts infoI
  have kx := HK1.out.below B1.out (by have := HS.out; omega)
  have st5 := store_slI none 0 0 (kx.cell 5) (kx.frozen 5)
  have k5 : Blk (w1.setCell ⟨w.heap.size, 5, none⟩ (.slice none 0 0)) w.heap.size 26 #[.int .i8 c.st, .int .i64 c.pid, .int .i64 c.ep, .int .i64 c.tm, .int .i64 c.th, .slice none 0 0, .slice D1 c.qs.length e1, .int .i64 c.ag] := kx.set_ 5 (.slice none 0 0)
  have k35 := (HK3.out.below B1.out (by have := HS.out; omega)).far (p := ⟨w.heap.size, 5, none⟩) (by simp) (.slice none 0 0)
  have b5 := (HB.out.trans (B1.out.mono HB.out.size)).setCell (p := ⟨w.heap.size, 5, none⟩) (Nat.le_refl _) (.slice none 0 0)
  have st6 := store_i8 2 (k5.cell 0) (k5.frozen 0)
  have k6 : Blk ((w1.setCell ⟨w.heap.size, 5, none⟩ (.slice none 0 0)).setCell ⟨w.heap.size, 0, none⟩ (.int .i8 2)) w.heap.size 26 #[.int .i8 2, .int .i64 c.pid, .int .i64 c.ep, .int .i64 c.tm, .int .i64 c.th, .slice none 0 0, .slice D1 c.qs.length e1, .int .i64 c.ag] := k5.set_ 0 (.int .i8 2)
  have k36 := k35.far (p := ⟨w.heap.size, 0, none⟩) (by simp) (.int .i8 2)
  have b6 := b5.setCell (p := ⟨w.heap.size, 0, none⟩) (Nat.le_refl _) (.int .i8 2)
  have x5' := k6.cell 5
  have KA := Lib.hid k6
  have KC := Lib.hid k36
  have BA := Lib.hid b6
  clear kx k5 k35 b5 k6 k36 b6
  go_upto_region 16 with (fail)
  clear x0 x1 x2 x3 x4 x5 x6 L1 st5 st6
  generalize ((w1.setCell ⟨w.heap.size, 5, none⟩ (.slice none 0 0)).setCell ⟨w.heap.size, 0, none⟩ (.int .i8 2)) = W8 at *
  go_wp2_with (at_builtin; refine wpList_append_any _ rfl (.tmp 65) (.tmp 66) 23 rfl W8.heap.size 3 i0 (.int .i64 0) 1 8 Tryd.underlying23 hi0 hz0 hz1 hz2 rfl (by decide) (.slice none 0 0) 0 [] rfl (World.ownsRow_nil _ _ _ _) w.heap.size AL l.length ml (cellsI .i64 l) rfl (HR.out.below BA.out) (cellsI_one _) (by unfold maxLen; omega) (by omega) (Nat.le_refl _) ?_; intro v3 W3 hown3 hg3 hat3; rw [Nat.zero_add, List.nil_append] at hown3; obtain ⟨A3, c3, rfl, hc3⟩ := own_slice hown3; have k3' := KA.out.grown hg3 (by simp [Value.ownBlock]); have st7 := store_slI A3 l.length c3 (k3'.cell 5) (k3'.frozen 5); have kz : Blk (W3.setCell ⟨w.heap.size, 5, none⟩ (.slice A3 l.length c3)) w.heap.size 26 #[.int .i8 2, .int .i64 c.pid, .int .i64 c.ep, .int .i64 c.tm, .int .i64 c.th, .slice A3 l.length c3, .slice D1 c.qs.length e1, .int .i64 c.ag] := k3'.set_ 5 (.slice A3 l.length c3); have L7 := bk_load (P := Tryd.prog) 8 kz rfl; have k37 := (KC.out.grown hg3 (by simp [Value.ownBlock])).far (p := ⟨w.heap.size, 5, none⟩) (by simp) (.slice A3 l.length c3); have b7 := (BA.out.grown hg3 BA.out.size (fun k e => by simp [Value.ownBlock] at e)).setCell (p := ⟨w.heap.size, 5, none⟩) (Nat.le_refl _) (.slice A3 l.length c3); have o7 := bk_own (w' := W3.setCell ⟨w.heap.size, 5, none⟩ (.slice A3 l.length c3)) hown3 (fun y hy => Below.heap_setCell _ _ _ _ (by have := (hown3.lt y hy).1; have := BA.out.size; have := KC.out.lt; show y ≠ w.heap.size; omega)); obtain ⟨W9, st9, kk, fb, fh, fs⟩ := bk_store (P := Tryd.prog) (ty := 26) (cs := #[.int .i8 2, .int .i64 c.pid, .int .i64 c.ep, .int .i64 c.tm, .int .i64 c.th, .slice A3 l.length c3, .slice D1 c.qs.length e1, .int .i64 c.ag]) 8 k37 infoCo rfl rfl (by simp [Value.oneCell']); have BB := Lib.hid (fb w.heap.size w (by omega) b7); have OO := Lib.hid (bk_own o7 (fun y hy => fh y (by have := (hown3.lt y hy).1; have := KC.out.lt; omega))); have KK := Lib.hid kk; have HL8 := Lib.hid (show w.heap.size ≤ W8.heap.size from BA.out.size); clear k3' kz k37 b7 o7 kk fb fh fs)
  refine bodyPost_ret (v := .tuple #[.agg #[.int .i8 2, .int .i64 c.pid, .int .i64 c.ep, .int .i64 c.tm, .int .i64 c.th, .slice A3 l.length c3, .slice D1 c.qs.length e1, .int .i64 c.ag], .int .i64 0]) (rplace_ret { c with st := 2, ps := l } A3 D1 c3 e1 0 _ (w.heap.size + 1) _ rfl rfl KK.out) rfl ?_
  rw [HE.out, HC.out]
  have rr := H1.out.up BB.out
  have na := newAt_of_own OO.out
  exact ⟨A3, D1, c3, e1, rfl, ⟨Reads.of_own OO.out, rr.2.1, HLL.out, rr.2.2.2⟩, BB.out, fun b hb o1 o2 => ⟨na.off (by have := HL8.out; omega), o2⟩⟩
set_option maxRecDepth 100000 in
set_option maxHeartbeats 2000000 in
theorem rplace_j (c : Co) (A1 D1 : Option Addr) (c1 e1 : Nat) (l : List Int) (AL : Option Addr) (ml : Nat) (w : World) (h1 : CoR w w.heap.size c A1 D1) (h8 : -128 ≤ c.st) (h9 : c.st ≤ 127) (hr : Reads w w.heap.size 1 AL l.length (cellsI .i64 l)) (hll : l.length ≤ 1000) (hmay : mayB c = true) (kp : partsB l = true) (ki : c.st = 1 ∨ c.st = 5 ∨ c.st = 6) (kl : 0 < l.length) :
    Calls Tryd.prog 21 #[(.agg #[.int .i8 c.st, .int .i64 c.pid, .int .i64 c.ep, .int .i64 c.tm, .int .i64 c.th, .slice A1 c.ps.length c1, .slice D1 c.qs.length e1, .int .i64 c.ag]), .slice AL l.length ml] w (MvP c A1 D1 (placeC c l) (placeE c l) w) := by
  have HR := Lib.hid hr
  have HLL := Lib.hid hll
  have HE := Lib.hid (show placeE c l = 0 by unfold placeE; rw [if_neg (by rw [hmay, kp]; simp)]; rw [if_neg (by omega)])
  have HC := Lib.hid (show placeC c l = { c with ps := l, st := 2 } by unfold placeC; rw [if_neg (by rw [HE.out]; decide), if_neg (by omega), if_neg (by omega), if_pos kl])
  have RI := Lib.hid (fun W (hb : Below w.heap.size w W) => rise_any AL l ml w.heap.size W (Reads.below hr hb) (by omega))
  rw [riseB_parts, kp] at RI
  have z0 : (c.st == 0) = false := by simp; omega
  have z3 : (c.st == 3) = false := by simp; omega
  have z4 : (c.st == 4) = false := by simp; omega
  have z2 : (c.st == 2) = false := by simp; omega
  have zl : ((l.length : Int) == 0) = false := beq_eq_false_iff_ne.2 (by omega)
  have zn : decide ((0 : Int) < (l.length : Int)) = true := decide_eq_true (by omega)
  have zn' : decide (0 < l.length) = true := decide_eq_true (by omega)
  obtain ⟨W0, hW0⟩ : ∃ W0, W0 = (w.alloc (.cells #[.int .i8 c.st, .int .i64 c.pid, .int .i64 c.ep, .int .i64 c.tm, .int .i64 c.th, .slice A1 c.ps.length c1, .slice D1 c.qs.length e1, .int .i64 c.ag] 26)).alloc (.cells #[.int .i8 0, .int .i64 0, .int .i64 0, .int .i64 0, .int .i64 0, .slice none 0 0, .slice none 0 0, .int .i64 0] 26) := ⟨_, rfl⟩
  have s0 : W0.heap.size = w.heap.size + 1 + 1 := by rw [hW0]; simp
  have B0 : Below w.heap.size w W0 := by rw [hW0]; exact bal (bal (Below.refl _ _) _) _
  have K1 : Blk W0 w.heap.size 26 #[.int .i8 c.st, .int .i64 c.pid, .int .i64 c.ep, .int .i64 c.tm, .int .i64 c.th, .slice A1 c.ps.length c1, .slice D1 c.qs.length e1, .int .i64 c.ag] := by rw [hW0]; exact (Blk.new w 26 #[.int .i8 c.st, .int .i64 c.pid, .int .i64 c.ep, .int .i64 c.tm, .int .i64 c.th, .slice A1 c.ps.length c1, .slice D1 c.qs.length e1, .int .i64 c.ag]).alloc _
  have K3 : Blk W0 (w.heap.size + 1) 26 #[.int .i8 0, .int .i64 0, .int .i64 0, .int .i64 0, .int .i64 0, .slice none 0 0, .slice none 0 0, .int .i64 0] := by rw [hW0]; exact bk_new _ 26 #[.int .i8 0, .int .i64 0, .int .i64 0, .int .i64 0, .int .i64 0, .slice none 0 0, .slice none 0 0, .int .i64 0] (by simp)
  have HW := Lib.hid hW0
  have HS := Lib.hid s0
  have HB := Lib.hid B0
  have HK1 := Lib.hid K1
  have HK3 := Lib.hid K3
  have H1 := Lib.hid h1
  have MY := Lib.hid (rMay_any c A1 D1 c1 e1 w.heap.size W0 (h1.below B0) B0.size h8 h9)
  rw [hmay] at MY
  have L0 := bk_load (P := Tryd.prog) 8 K1 rfl
  clear hW0 s0 B0 K1 K3 h1 h8 h9 hmay hr kp ki kl
  go_enter Tryd.func21, Tryd.ntmps21
  go_upto_region 1 with (fail)
  rw [← HW.out]
  go_wp2_with fail
  refine MY.out.mono ?_
  rintro e w1 ⟨rfl, b1⟩
  have B1 := Lib.hid (show Below W0.heap.size W0 w1 from b1)
  have kx := HK1.out.below b1 (by have := HS.out; omega)
  have x0 := kx.cell 0
  have x1 := kx.cell 1
  have x2 := kx.cell 2
  have x3 := kx.cell 3
  have x4 := kx.cell 4
  have x5 := kx.cell 5
  have x6 := kx.cell 6
  have L1 := bk_load (P := Tryd.prog) 8 kx rfl
  clear L0 b1 kx
  go_wp2_with fail
  refine (RI.out _ (HB.out.trans (B1.out.mono HB.out.size))).mono ?_
  rintro e w9 ⟨rfl, rfl⟩

  obtain ⟨i0, hi0, hz0, hz1, hz2⟩ := info_parts infoI
  have kx := HK1.out.below B1.out (by have := HS.out; omega)
  have st5 := store_slI none 0 0 (kx.cell 5) (kx.frozen 5)
  have k5 : Blk (w1.setCell ⟨w.heap.size, 5, none⟩ (.slice none 0 0)) w.heap.size 26 #[.int .i8 c.st, .int .i64 c.pid, .int .i64 c.ep, .int .i64 c.tm, .int .i64 c.th, .slice none 0 0, .slice D1 c.qs.length e1, .int .i64 c.ag] := kx.set_ 5 (.slice none 0 0)
  have k35 := (HK3.out.below B1.out (by have := HS.out; omega)).far (p := ⟨w.heap.size, 5, none⟩) (by simp) (.slice none 0 0)
  have b5 := (HB.out.trans (B1.out.mono HB.out.size)).setCell (p := ⟨w.heap.size, 5, none⟩) (Nat.le_refl _) (.slice none 0 0)
  have st6 := store_i8 2 (k5.cell 0) (k5.frozen 0)
  have k6 : Blk ((w1.setCell ⟨w.heap.size, 5, none⟩ (.slice none 0 0)).setCell ⟨w.heap.size, 0, none⟩ (.int .i8 2)) w.heap.size 26 #[.int .i8 2, .int .i64 c.pid, .int .i64 c.ep, .int .i64 c.tm, .int .i64 c.th, .slice none 0 0, .slice D1 c.qs.length e1, .int .i64 c.ag] := k5.set_ 0 (.int .i8 2)
  have k36 := k35.far (p := ⟨w.heap.size, 0, none⟩) (by simp) (.int .i8 2)
  have b6 := b5.setCell (p := ⟨w.heap.size, 0, none⟩) (Nat.le_refl _) (.int .i8 2)
  have x5' := k6.cell 5
  have KA := Lib.hid k6
  have KC := Lib.hid k36
  have BA := Lib.hid b6
  clear kx k5 k35 b5 k6 k36 b6
  go_upto_region 16 with (fail)
  clear x0 x1 x2 x3 x4 x5 x6 L1 st5 st6
  generalize ((w1.setCell ⟨w.heap.size, 5, none⟩ (.slice none 0 0)).setCell ⟨w.heap.size, 0, none⟩ (.int .i8 2)) = W8 at *
  go_wp2_with (at_builtin; refine wpList_append_any _ rfl (.tmp 65) (.tmp 66) 23 rfl W8.heap.size 3 i0 (.int .i64 0) 1 8 Tryd.underlying23 hi0 hz0 hz1 hz2 rfl (by decide) (.slice none 0 0) 0 [] rfl (World.ownsRow_nil _ _ _ _) w.heap.size AL l.length ml (cellsI .i64 l) rfl (HR.out.below BA.out) (cellsI_one _) (by unfold maxLen; omega) (by omega) (Nat.le_refl _) ?_; intro v3 W3 hown3 hg3 hat3; rw [Nat.zero_add, List.nil_append] at hown3; obtain ⟨A3, c3, rfl, hc3⟩ := own_slice hown3; have k3' := KA.out.grown hg3 (by simp [Value.ownBlock]); have st7 := store_slI A3 l.length c3 (k3'.cell 5) (k3'.frozen 5); have kz : Blk (W3.setCell ⟨w.heap.size, 5, none⟩ (.slice A3 l.length c3)) w.heap.size 26 #[.int .i8 2, .int .i64 c.pid, .int .i64 c.ep, .int .i64 c.tm, .int .i64 c.th, .slice A3 l.length c3, .slice D1 c.qs.length e1, .int .i64 c.ag] := k3'.set_ 5 (.slice A3 l.length c3); have L7 := bk_load (P := Tryd.prog) 8 kz rfl; have k37 := (KC.out.grown hg3 (by simp [Value.ownBlock])).far (p := ⟨w.heap.size, 5, none⟩) (by simp) (.slice A3 l.length c3); have b7 := (BA.out.grown hg3 BA.out.size (fun k e => by simp [Value.ownBlock] at e)).setCell (p := ⟨w.heap.size, 5, none⟩) (Nat.le_refl _) (.slice A3 l.length c3); have o7 := bk_own (w' := W3.setCell ⟨w.heap.size, 5, none⟩ (.slice A3 l.length c3)) hown3 (fun y hy => Below.heap_setCell _ _ _ _ (by have := (hown3.lt y hy).1; have := BA.out.size; have := KC.out.lt; show y ≠ w.heap.size; omega)); obtain ⟨W9, st9, kk, fb, fh, fs⟩ := bk_store (P := Tryd.prog) (ty := 26) (cs := #[.int .i8 2, .int .i64 c.pid, .int .i64 c.ep, .int .i64 c.tm, .int .i64 c.th, .slice A3 l.length c3, .slice D1 c.qs.length e1, .int .i64 c.ag]) 8 k37 infoCo rfl rfl (by simp [Value.oneCell']); have BB := Lib.hid (fb w.heap.size w (by omega) b7); have OO := Lib.hid (bk_own o7 (fun y hy => fh y (by have := (hown3.lt y hy).1; have := KC.out.lt; omega))); have KK := Lib.hid kk; have HL8 := Lib.hid (show w.heap.size ≤ W8.heap.size from BA.out.size); clear k3' kz k37 b7 o7 kk fb fh fs)
  refine bodyPost_ret (v := .tuple #[.agg #[.int .i8 2, .int .i64 c.pid, .int .i64 c.ep, .int .i64 c.tm, .int .i64 c.th, .slice A3 l.length c3, .slice D1 c.qs.length e1, .int .i64 c.ag], .int .i64 0]) (rplace_ret { c with st := 2, ps := l } A3 D1 c3 e1 0 _ (w.heap.size + 1) _ rfl rfl KK.out) rfl ?_
  rw [HE.out, HC.out]
  have rr := H1.out.up BB.out
  have na := newAt_of_own OO.out
  exact ⟨A3, D1, c3, e1, rfl, ⟨Reads.of_own OO.out, rr.2.1, HLL.out, rr.2.2.2⟩, BB.out, fun b hb o1 o2 => ⟨na.off (by have := HL8.out; omega), o2⟩⟩
theorem rPlace_any (c : Co) (A1 D1 : Option Addr) (c1 e1 : Nat) (l : List Int) (AL : Option Addr) (ml : Nat) (w : World) (h1 : CoR w w.heap.size c A1 D1) (h8 : -128 ≤ c.st) (h9 : c.st ≤ 127) (hr : Reads w w.heap.size 1 AL l.length (cellsI .i64 l)) (hll : l.length ≤ 1000) :
    Calls Tryd.prog 21 #[(.agg #[.int .i8 c.st, .int .i64 c.pid, .int .i64 c.ep, .int .i64 c.tm, .int .i64 c.th, .slice A1 c.ps.length c1, .slice D1 c.qs.length e1, .int .i64 c.ag]), .slice AL l.length ml] w (MvP c A1 D1 (placeC c l) (placeE c l) w) := by
  cases hm : mayB c
  · exact rplace_a c A1 D1 c1 e1 l AL ml w h1 h8 h9 hr hll hm
  cases kp : partsB l
  · exact rplace_b c A1 D1 c1 e1 l AL ml w h1 h8 h9 hr hll hm kp
  by_cases k0 : c.st = 0
  · by_cases kl : 0 < l.length
    · exact rplace_c c A1 D1 c1 e1 l AL ml w h1 h8 h9 hr hll hm kp k0 kl
    · exact rplace_d c A1 D1 c1 e1 l AL ml w h1 h8 h9 hr hll hm kp k0 (by omega)
  by_cases k3 : c.st = 3
  · exact rplace_e3 c A1 D1 c1 e1 l AL ml w h1 h8 h9 hr hll hm kp k3
  by_cases k4 : c.st = 4
  · exact rplace_e4 c A1 D1 c1 e1 l AL ml w h1 h8 h9 hr hll hm kp k4
  by_cases k2 : c.st = 2
  · by_cases kl : 0 < l.length
    · exact rplace_h c A1 D1 c1 e1 l AL ml w h1 h8 h9 hr hll hm kp k2 kl
    · by_cases kq : c.qs.length = 0
      · exact rplace_f c A1 D1 c1 e1 l AL ml w h1 h8 h9 hr hll hm kp k2 (by omega) kq
      · exact rplace_g c A1 D1 c1 e1 l AL ml w h1 h8 h9 hr hll hm kp k2 (by omega) kq
  have ki : c.st = 1 ∨ c.st = 5 ∨ c.st = 6 := by have := may_st hm; omega
  by_cases kl : 0 < l.length
  · exact rplace_j c A1 D1 c1 e1 l AL ml w h1 h8 h9 hr hll hm kp ki kl
  · exact rplace_i c A1 D1 c1 e1 l AL ml w h1 h8 h9 hr hll hm kp ki (by omega)
end
end Go.Proofs.YtbpkckahonmpkaaDoor
