/-
  Layer 18, the document's: Init, Prepare, Complete, Place.
-/
import Derived.Test.YtbpkckahonmpkaaGreatDoorMeFoldsProofP15
set_option linter.unusedVariables false
set_option linter.unusedSimpArgs false
namespace Go.Proofs.YtbpkckahonmpkaaGreatDoor
open Go.RowKit

theorem chk_no {c : Co} {mv : Int} {fit : Bool} (h : mayB c = false) : chkE c mv fit = 2 := by unfold chkE; rw [if_pos (.inr h)]
theorem chk_of {c : Co} {mv : Int} (h : mayB c = true) : chkE c mv true = if beginsB c.st mv = false then 180 else 0 := by unfold chkE; rw [if_neg (by simp [h])]
def idlB (c : Co) : Bool := (c.st == 1) || ((c.st == 5) || (c.st == 6))
theorem idl_iff (c : Co) : idlB c = true ↔ c.st = 1 ∨ c.st = 5 ∨ c.st = 6 := by unfold idlB; simp
theorem begins_of {c : Co} (h : mayB c = true) (mv : Int) : beginsB c.st mv = if c.st = 0 then mv == 0 else if c.st = 2 then ((mv == 1) || (mv == 2)) || (mv == 4) else if idlB c = true then ((mv == 0) || (mv == 1)) || (mv == 2) else mv == 3 := by
  have := may_st h
  unfold beginsB
  by_cases h0 : c.st = 0
  · rw [if_pos h0, if_pos h0]
  rw [if_neg h0, if_neg h0]
  by_cases h2 : c.st = 2
  · rw [if_pos h2, if_pos h2]
  rw [if_neg h2, if_neg h2]
  by_cases h5 : c.st = 1 ∨ c.st = 5 ∨ c.st = 6
  · rw [if_pos h5, if_pos ((idl_iff c).2 h5)]
  · rw [if_neg h5, if_neg (fun x => h5 ((idl_iff c).1 x)), if_pos (by omega)]
section
attribute [-go_sem] loadCells storeVar
theorem store_i8 {W : World} {a : Addr} {u : Value} (k : Int) (h : W.cell? a = some u) (hf : W.frozen? a = false) : (storeVar 25 a (.int .i8 k)).run Tryz.prog W = .ok () (W.setCell a (.int .i8 k)) := by
  simp [go_sem, h, hf, storeVar]
theorem store_i64 {W : World} {a : Addr} {u : Value} (k : Int) (h : W.cell? a = some u) (hf : W.frozen? a = false) : (storeVar 3 a (.int .i64 k)).run Tryz.prog W = .ok () (W.setCell a (.int .i64 k)) := by
  simp [go_sem, h, hf, storeVar]
set_option maxRecDepth 100000 in
set_option maxHeartbeats 1000000 in
theorem idle_any (c : Co) (A1 D1 : Option Addr) (c1 e1 : Nat) (w : World) : Calls Tryz.prog 93 #[(.agg #[.int .i8 c.st, .int .i64 c.pid, .int .i64 c.ep, .int .i64 c.tm, .int .i64 c.th, .slice A1 c.ps.length c1, .slice D1 c.qs.length e1, .int .i64 c.ag])] w fun e w' => e = .returned (.bool (idlB c)) ∧ Below w.heap.size w w' := by
  have HB := Lib.hid (fun x => bal (Below.refl w.heap.size w) x)
  have x0 := (Blk.new w 29 #[.int .i8 c.st, .int .i64 c.pid, .int .i64 c.ep, .int .i64 c.tm, .int .i64 c.th, .slice A1 c.ps.length c1, .slice D1 c.qs.length e1, .int .i64 c.ag]).cell 0
  go_enter Tryz.func93, Tryz.ntmps93
  go_wp2_with fail
  all_goals (go_ret; exact ⟨ret_bool (by unfold idlB; rw [Bool.eq_iff_iff]; simp_all), HB.out _⟩)
theorem offB_none' {b : Nat} {A : Option Addr} : OffB b 0 A := fun h => by omega
set_option maxRecDepth 100000 in
theorem rinit_ret (x : Co) (A5 D5 : Option Addr) (c5 e5 : Nat) (n : Int) (tmps : Array Value) (b : Nat) (W : World) (h2 : tmps[6]?.getD undef = .pointer (some ⟨b, 0, none⟩)) (h3 : tmps[7]?.getD undef = .int .i64 n) (hK : Blk W b 29 #[.int .i8 x.st, .int .i64 x.pid, .int .i64 x.ep, .int .i64 x.tm, .int .i64 x.th, .slice A5 x.ps.length c5, .slice D5 x.qs.length e5, .int .i64 x.ag]) :
    (results Tryz.f65 tmps).run Tryz.prog W = .ok (.tuple #[(.agg #[.int .i8 x.st, .int .i64 x.pid, .int .i64 x.ep, .int .i64 x.tm, .int .i64 x.th, .slice A5 x.ps.length c5, .slice D5 x.qs.length e5, .int .i64 x.ag]), .int .i64 n]) W := by
  have LC := bk_load (P := Tryz.prog) 8 hK rfl
  clear hK
  simp [results, Tryz.results65, go_sem, h2, h3, LC]
set_option maxRecDepth 100000 in
set_option maxHeartbeats 2000000 in
theorem rinit_a (c : Co) (A1 D1 : Option Addr) (c1 e1 : Nat) (pid tm : Int) (w : World) (h1 : CoR w w.heap.size c A1 D1) (h8 : -128 ≤ c.st) (h9 : c.st ≤ 127) (hmay : mayB c = false) :
    Calls Tryz.prog 65 #[(.agg #[.int .i8 c.st, .int .i64 c.pid, .int .i64 c.ep, .int .i64 c.tm, .int .i64 c.th, .slice A1 c.ps.length c1, .slice D1 c.qs.length e1, .int .i64 c.ag]), .int .i64 pid, .int .i64 tm] w (MvP c A1 D1 (initC c pid tm) (initE c pid tm) w) := by

  have HE := Lib.hid (show initE c pid tm = 2 by unfold initE; first | rw [if_pos (by omega)] | (rw [if_neg (by omega), if_pos (by rw [chk_no hmay]; decide), chk_no hmay]) | (by_cases hr : 1 ≤ pid ∧ pid ≤ 8 ∧ 1 ≤ tm ∧ tm ≤ 20; rw [if_neg (by omega), if_pos (by rw [chk_no hmay]; decide), chk_no hmay]; rw [if_pos hr]))
  have HC := Lib.hid (show initC c pid tm = Co0 by unfold initC; rw [HE.out, if_neg (by decide)])

  obtain ⟨W0, hW0⟩ : ∃ W0, W0 = (w.alloc (.cells #[.int .i8 c.st, .int .i64 c.pid, .int .i64 c.ep, .int .i64 c.tm, .int .i64 c.th, .slice A1 c.ps.length c1, .slice D1 c.qs.length e1, .int .i64 c.ag] 29)).alloc (.cells #[.int .i8 0, .int .i64 0, .int .i64 0, .int .i64 0, .int .i64 0, .slice none 0 0, .slice none 0 0, .int .i64 0] 29) := ⟨_, rfl⟩
  have s0 : W0.heap.size = w.heap.size + 1 + 1 := by rw [hW0]; simp
  have B0 : Below w.heap.size w W0 := by rw [hW0]; exact bal (bal (Below.refl _ _) _) _
  have K1 : Blk W0 w.heap.size 29 #[.int .i8 c.st, .int .i64 c.pid, .int .i64 c.ep, .int .i64 c.tm, .int .i64 c.th, .slice A1 c.ps.length c1, .slice D1 c.qs.length e1, .int .i64 c.ag] := by rw [hW0]; exact (Blk.new w 29 #[.int .i8 c.st, .int .i64 c.pid, .int .i64 c.ep, .int .i64 c.tm, .int .i64 c.th, .slice A1 c.ps.length c1, .slice D1 c.qs.length e1, .int .i64 c.ag]).alloc _
  have K3 : Blk W0 (w.heap.size + 1) 29 #[.int .i8 0, .int .i64 0, .int .i64 0, .int .i64 0, .int .i64 0, .slice none 0 0, .slice none 0 0, .int .i64 0] := by rw [hW0]; exact bk_new _ 29 #[.int .i8 0, .int .i64 0, .int .i64 0, .int .i64 0, .int .i64 0, .slice none 0 0, .slice none 0 0, .int .i64 0] (by simp)
  have HW := Lib.hid hW0
  have HS := Lib.hid s0
  have HB := Lib.hid B0
  have HK1 := Lib.hid K1
  have HK3 := Lib.hid K3
  have H1 := Lib.hid h1
  have MY := Lib.hid (rMay_any c A1 D1 c1 e1 w.heap.size W0 (h1.below B0) B0.size h8 h9)
  rw [hmay] at MY
  have L0 := bk_load (P := Tryz.prog) 8 K1 rfl
  clear hW0 s0 B0 K1 K3 h1 h8 h9 hmay 
  go_enter Tryz.func65, Tryz.ntmps65
  go_upto_region 1 with (fail)
  rw [← HW.out]
  go_wp2_with fail
  refine MY.out.mono ?_
  rintro e w1 ⟨rfl, b1⟩
  have B1 := Lib.hid (show Below W0.heap.size W0 w1 from b1)
  have kx := HK1.out.below b1 (by have := HS.out; omega)
  have x0 := kx.cell 0
  have x1 := kx.cell 1
  have x2 := kx.cell 2
  have x3 := kx.cell 3
  have x4 := kx.cell 4
  have x5 := kx.cell 5
  have x6 := kx.cell 6
  have L1 := bk_load (P := Tryz.prog) 8 kx rfl
  clear L0 b1 kx
  obtain ⟨W9, st, kk, fb, fh, fs⟩ := bk_store (P := Tryz.prog) (ty := 29) (cs := #[.int .i8 0, .int .i64 0, .int .i64 0, .int .i64 0, .int .i64 0, .slice none 0 0, .slice none 0 0, .int .i64 0]) 8 (HK3.out.below B1.out (by have := HS.out; omega)) infoCo rfl rfl (by simp [Value.oneCell'])
  have BB := Lib.hid (fb w.heap.size w (by omega) (HB.out.trans (B1.out.mono HB.out.size)))
  have KK := Lib.hid kk
  clear kk fb fh fs
  go_wp2_with fail
  refine bodyPost_ret (v := .tuple #[.agg #[.int .i8 0, .int .i64 0, .int .i64 0, .int .i64 0, .int .i64 0, .slice none 0 0, .slice none 0 0, .int .i64 0], .int .i64 2]) (rinit_ret Co0 none none 0 0 _ _ (w.heap.size + 1) _ rfl rfl KK.out) rfl ?_
  rw [HE.out, HC.out]
  exact ⟨none, none, 0, 0, rfl, ⟨Reads.none_, Reads.none_, Nat.zero_le _, Nat.zero_le _⟩, BB.out, fun b hb _ _ => ⟨offB_none', offB_none'⟩⟩
set_option maxRecDepth 100000 in
set_option maxHeartbeats 2000000 in
theorem rinit_b (c : Co) (A1 D1 : Option Addr) (c1 e1 : Nat) (pid tm : Int) (w : World) (h1 : CoR w w.heap.size c A1 D1) (h8 : -128 ≤ c.st) (h9 : c.st ≤ 127) (hmay : mayB c = true) (k : ¬ (1 ≤ pid ∧ pid ≤ 8)) :
    Calls Tryz.prog 65 #[(.agg #[.int .i8 c.st, .int .i64 c.pid, .int .i64 c.ep, .int .i64 c.tm, .int .i64 c.th, .slice A1 c.ps.length c1, .slice D1 c.qs.length e1, .int .i64 c.ag]), .int .i64 pid, .int .i64 tm] w (MvP c A1 D1 (initC c pid tm) (initE c pid tm) w) := by

  have HE := Lib.hid (show initE c pid tm = 2 by unfold initE; first | rw [if_pos (by omega)] | (rw [if_neg (by omega), if_pos (by rw [chk_no hmay]; decide), chk_no hmay]) | (by_cases hr : 1 ≤ pid ∧ pid ≤ 8 ∧ 1 ≤ tm ∧ tm ≤ 20; rw [if_neg (by omega), if_pos (by rw [chk_no hmay]; decide), chk_no hmay]; rw [if_pos hr]))
  have HC := Lib.hid (show initC c pid tm = Co0 by unfold initC; rw [HE.out, if_neg (by decide)])
  have i1 : inB pid 1 8 = false := by unfold inB; simp; omega
  obtain ⟨W0, hW0⟩ : ∃ W0, W0 = (w.alloc (.cells #[.int .i8 c.st, .int .i64 c.pid, .int .i64 c.ep, .int .i64 c.tm, .int .i64 c.th, .slice A1 c.ps.length c1, .slice D1 c.qs.length e1, .int .i64 c.ag] 29)).alloc (.cells #[.int .i8 0, .int .i64 0, .int .i64 0, .int .i64 0, .int .i64 0, .slice none 0 0, .slice none 0 0, .int .i64 0] 29) := ⟨_, rfl⟩
  have s0 : W0.heap.size = w.heap.size + 1 + 1 := by rw [hW0]; simp
  have B0 : Below w.heap.size w W0 := by rw [hW0]; exact bal (bal (Below.refl _ _) _) _
  have K1 : Blk W0 w.heap.size 29 #[.int .i8 c.st, .int .i64 c.pid, .int .i64 c.ep, .int .i64 c.tm, .int .i64 c.th, .slice A1 c.ps.length c1, .slice D1 c.qs.length e1, .int .i64 c.ag] := by rw [hW0]; exact (Blk.new w 29 #[.int .i8 c.st, .int .i64 c.pid, .int .i64 c.ep, .int .i64 c.tm, .int .i64 c.th, .slice A1 c.ps.length c1, .slice D1 c.qs.length e1, .int .i64 c.ag]).alloc _
  have K3 : Blk W0 (w.heap.size + 1) 29 #[.int .i8 0, .int .i64 0, .int .i64 0, .int .i64 0, .int .i64 0, .slice none 0 0, .slice none 0 0, .int .i64 0] := by rw [hW0]; exact bk_new _ 29 #[.int .i8 0, .int .i64 0, .int .i64 0, .int .i64 0, .int .i64 0, .slice none 0 0, .slice none 0 0, .int .i64 0] (by simp)
  have HW := Lib.hid hW0
  have HS := Lib.hid s0
  have HB := Lib.hid B0
  have HK1 := Lib.hid K1
  have HK3 := Lib.hid K3
  have H1 := Lib.hid h1
  have MY := Lib.hid (rMay_any c A1 D1 c1 e1 w.heap.size W0 (h1.below B0) B0.size h8 h9)
  rw [hmay] at MY
  have L0 := bk_load (P := Tryz.prog) 8 K1 rfl
  clear hW0 s0 B0 K1 K3 h1 h8 h9 hmay k
  go_enter Tryz.func65, Tryz.ntmps65
  go_upto_region 1 with (fail)
  rw [← HW.out]
  go_wp2_with fail
  refine MY.out.mono ?_
  rintro e w1 ⟨rfl, b1⟩
  have B1 := Lib.hid (show Below W0.heap.size W0 w1 from b1)
  have kx := HK1.out.below b1 (by have := HS.out; omega)
  have x0 := kx.cell 0
  have x1 := kx.cell 1
  have x2 := kx.cell 2
  have x3 := kx.cell 3
  have x4 := kx.cell 4
  have x5 := kx.cell 5
  have x6 := kx.cell 6
  have L1 := bk_load (P := Tryz.prog) 8 kx rfl
  clear L0 b1 kx
  go_wp2_with fail
  refine (in_any _ _ _ _).mono ?_
  rintro e w9 ⟨rfl, rfl⟩

  obtain ⟨W9, st, kk, fb, fh, fs⟩ := bk_store (P := Tryz.prog) (ty := 29) (cs := #[.int .i8 0, .int .i64 0, .int .i64 0, .int .i64 0, .int .i64 0, .slice none 0 0, .slice none 0 0, .int .i64 0]) 8 (HK3.out.below B1.out (by have := HS.out; omega)) infoCo rfl rfl (by simp [Value.oneCell'])
  have BB := Lib.hid (fb w.heap.size w (by omega) (HB.out.trans (B1.out.mono HB.out.size)))
  have KK := Lib.hid kk
  clear kk fb fh fs
  go_wp2_with fail
  refine bodyPost_ret (v := .tuple #[.agg #[.int .i8 0, .int .i64 0, .int .i64 0, .int .i64 0, .int .i64 0, .slice none 0 0, .slice none 0 0, .int .i64 0], .int .i64 2]) (rinit_ret Co0 none none 0 0 _ _ (w.heap.size + 1) _ rfl rfl KK.out) rfl ?_
  rw [HE.out, HC.out]
  exact ⟨none, none, 0, 0, rfl, ⟨Reads.none_, Reads.none_, Nat.zero_le _, Nat.zero_le _⟩, BB.out, fun b hb _ _ => ⟨offB_none', offB_none'⟩⟩
set_option maxRecDepth 100000 in
set_option maxHeartbeats 2000000 in
theorem rinit_c (c : Co) (A1 D1 : Option Addr) (c1 e1 : Nat) (pid tm : Int) (w : World) (h1 : CoR w w.heap.size c A1 D1) (h8 : -128 ≤ c.st) (h9 : c.st ≤ 127) (hmay : mayB c = true) (k : 1 ≤ pid ∧ pid ≤ 8) (k2 : ¬ (1 ≤ tm ∧ tm ≤ 20)) :
    Calls Tryz.prog 65 #[(.agg #[.int .i8 c.st, .int .i64 c.pid, .int .i64 c.ep, .int .i64 c.tm, .int .i64 c.th, .slice A1 c.ps.length c1, .slice D1 c.qs.length e1, .int .i64 c.ag]), .int .i64 pid, .int .i64 tm] w (MvP c A1 D1 (initC c pid tm) (initE c pid tm) w) := by

  have HE := Lib.hid (show initE c pid tm = 2 by unfold initE; first | rw [if_pos (by omega)] | (rw [if_neg (by omega), if_pos (by rw [chk_no hmay]; decide), chk_no hmay]) | (by_cases hr : 1 ≤ pid ∧ pid ≤ 8 ∧ 1 ≤ tm ∧ tm ≤ 20; rw [if_neg (by omega), if_pos (by rw [chk_no hmay]; decide), chk_no hmay]; rw [if_pos hr]))
  have HC := Lib.hid (show initC c pid tm = Co0 by unfold initC; rw [HE.out, if_neg (by decide)])
  have i1 : inB pid 1 8 = true := by unfold inB; simp; omega
  have i2 : inB tm 1 20 = false := by unfold inB; simp; omega
  obtain ⟨W0, hW0⟩ : ∃ W0, W0 = (w.alloc (.cells #[.int .i8 c.st, .int .i64 c.pid, .int .i64 c.ep, .int .i64 c.tm, .int .i64 c.th, .slice A1 c.ps.length c1, .slice D1 c.qs.length e1, .int .i64 c.ag] 29)).alloc (.cells #[.int .i8 0, .int .i64 0, .int .i64 0, .int .i64 0, .int .i64 0, .slice none 0 0, .slice none 0 0, .int .i64 0] 29) := ⟨_, rfl⟩
  have s0 : W0.heap.size = w.heap.size + 1 + 1 := by rw [hW0]; simp
  have B0 : Below w.heap.size w W0 := by rw [hW0]; exact bal (bal (Below.refl _ _) _) _
  have K1 : Blk W0 w.heap.size 29 #[.int .i8 c.st, .int .i64 c.pid, .int .i64 c.ep, .int .i64 c.tm, .int .i64 c.th, .slice A1 c.ps.length c1, .slice D1 c.qs.length e1, .int .i64 c.ag] := by rw [hW0]; exact (Blk.new w 29 #[.int .i8 c.st, .int .i64 c.pid, .int .i64 c.ep, .int .i64 c.tm, .int .i64 c.th, .slice A1 c.ps.length c1, .slice D1 c.qs.length e1, .int .i64 c.ag]).alloc _
  have K3 : Blk W0 (w.heap.size + 1) 29 #[.int .i8 0, .int .i64 0, .int .i64 0, .int .i64 0, .int .i64 0, .slice none 0 0, .slice none 0 0, .int .i64 0] := by rw [hW0]; exact bk_new _ 29 #[.int .i8 0, .int .i64 0, .int .i64 0, .int .i64 0, .int .i64 0, .slice none 0 0, .slice none 0 0, .int .i64 0] (by simp)
  have HW := Lib.hid hW0
  have HS := Lib.hid s0
  have HB := Lib.hid B0
  have HK1 := Lib.hid K1
  have HK3 := Lib.hid K3
  have H1 := Lib.hid h1
  have MY := Lib.hid (rMay_any c A1 D1 c1 e1 w.heap.size W0 (h1.below B0) B0.size h8 h9)
  rw [hmay] at MY
  have L0 := bk_load (P := Tryz.prog) 8 K1 rfl
  clear hW0 s0 B0 K1 K3 h1 h8 h9 hmay k k2
  go_enter Tryz.func65, Tryz.ntmps65
  go_upto_region 1 with (fail)
  rw [← HW.out]
  go_wp2_with fail
  refine MY.out.mono ?_
  rintro e w1 ⟨rfl, b1⟩
  have B1 := Lib.hid (show Below W0.heap.size W0 w1 from b1)
  have kx := HK1.out.below b1 (by have := HS.out; omega)
  have x0 := kx.cell 0
  have x1 := kx.cell 1
  have x2 := kx.cell 2
  have x3 := kx.cell 3
  have x4 := kx.cell 4
  have x5 := kx.cell 5
  have x6 := kx.cell 6
  have L1 := bk_load (P := Tryz.prog) 8 kx rfl
  clear L0 b1 kx
  go_wp2_with fail
  refine (in_any _ _ _ _).mono ?_
  rintro e w9 ⟨rfl, rfl⟩
  go_wp2_with fail
  refine (in_any _ _ _ _).mono ?_
  rintro e w9 ⟨rfl, rfl⟩

  obtain ⟨W9, st, kk, fb, fh, fs⟩ := bk_store (P := Tryz.prog) (ty := 29) (cs := #[.int .i8 0, .int .i64 0, .int .i64 0, .int .i64 0, .int .i64 0, .slice none 0 0, .slice none 0 0, .int .i64 0]) 8 (HK3.out.below B1.out (by have := HS.out; omega)) infoCo rfl rfl (by simp [Value.oneCell'])
  have BB := Lib.hid (fb w.heap.size w (by omega) (HB.out.trans (B1.out.mono HB.out.size)))
  have KK := Lib.hid kk
  clear kk fb fh fs
  go_wp2_with fail
  refine bodyPost_ret (v := .tuple #[.agg #[.int .i8 0, .int .i64 0, .int .i64 0, .int .i64 0, .int .i64 0, .slice none 0 0, .slice none 0 0, .int .i64 0], .int .i64 2]) (rinit_ret Co0 none none 0 0 _ _ (w.heap.size + 1) _ rfl rfl KK.out) rfl ?_
  rw [HE.out, HC.out]
  exact ⟨none, none, 0, 0, rfl, ⟨Reads.none_, Reads.none_, Nat.zero_le _, Nat.zero_le _⟩, BB.out, fun b hb _ _ => ⟨offB_none', offB_none'⟩⟩
set_option maxRecDepth 100000 in
set_option maxHeartbeats 2000000 in
theorem rinit_d (c : Co) (A1 D1 : Option Addr) (c1 e1 : Nat) (pid tm : Int) (w : World) (h1 : CoR w w.heap.size c A1 D1) (h8 : -128 ≤ c.st) (h9 : c.st ≤ 127) (hmay : mayB c = true) (k : 1 ≤ pid ∧ pid ≤ 8 ∧ 1 ≤ tm ∧ tm ≤ 20) (k3 : c.st = 0) :
    Calls Tryz.prog 65 #[(.agg #[.int .i8 c.st, .int .i64 c.pid, .int .i64 c.ep, .int .i64 c.tm, .int .i64 c.th, .slice A1 c.ps.length c1, .slice D1 c.qs.length e1, .int .i64 c.ag]), .int .i64 pid, .int .i64 tm] w (MvP c A1 D1 (initC c pid tm) (initE c pid tm) w) := by

  have HE := Lib.hid (show initE c pid tm = 0 by unfold initE; rw [if_neg (by omega), chk_of hmay, begins_of hmay]; rw [if_pos k3]; rw [if_neg (by decide), if_neg (by rw [may_none hmay k3]; decide)])
  have HC := Lib.hid (show initC c pid tm = ⟨1, pid, 0, tm, 0, [], [], 0⟩ by unfold initC; rw [HE.out, if_pos rfl, if_pos k3])
  have i1 : inB pid 1 8 = true := by unfold inB; simp; omega
  have i2 : inB tm 1 20 = true := by unfold inB; simp; omega
  have z0 : (c.st == 0) = true := by rw [k3]; rfl
  obtain ⟨W0, hW0⟩ : ∃ W0, W0 = (w.alloc (.cells #[.int .i8 c.st, .int .i64 c.pid, .int .i64 c.ep, .int .i64 c.tm, .int .i64 c.th, .slice A1 c.ps.length c1, .slice D1 c.qs.length e1, .int .i64 c.ag] 29)).alloc (.cells #[.int .i8 0, .int .i64 0, .int .i64 0, .int .i64 0, .int .i64 0, .slice none 0 0, .slice none 0 0, .int .i64 0] 29) := ⟨_, rfl⟩
  have s0 : W0.heap.size = w.heap.size + 1 + 1 := by rw [hW0]; simp
  have B0 : Below w.heap.size w W0 := by rw [hW0]; exact bal (bal (Below.refl _ _) _) _
  have K1 : Blk W0 w.heap.size 29 #[.int .i8 c.st, .int .i64 c.pid, .int .i64 c.ep, .int .i64 c.tm, .int .i64 c.th, .slice A1 c.ps.length c1, .slice D1 c.qs.length e1, .int .i64 c.ag] := by rw [hW0]; exact (Blk.new w 29 #[.int .i8 c.st, .int .i64 c.pid, .int .i64 c.ep, .int .i64 c.tm, .int .i64 c.th, .slice A1 c.ps.length c1, .slice D1 c.qs.length e1, .int .i64 c.ag]).alloc _
  have K3 : Blk W0 (w.heap.size + 1) 29 #[.int .i8 0, .int .i64 0, .int .i64 0, .int .i64 0, .int .i64 0, .slice none 0 0, .slice none 0 0, .int .i64 0] := by rw [hW0]; exact bk_new _ 29 #[.int .i8 0, .int .i64 0, .int .i64 0, .int .i64 0, .int .i64 0, .slice none 0 0, .slice none 0 0, .int .i64 0] (by simp)
  have HW := Lib.hid hW0
  have HS := Lib.hid s0
  have HB := Lib.hid B0
  have HK1 := Lib.hid K1
  have HK3 := Lib.hid K3
  have H1 := Lib.hid h1
  have MY := Lib.hid (rMay_any c A1 D1 c1 e1 w.heap.size W0 (h1.below B0) B0.size h8 h9)
  rw [hmay] at MY
  have L0 := bk_load (P := Tryz.prog) 8 K1 rfl
  clear hW0 s0 B0 K1 K3 h1 h8 h9 hmay k k3
  go_enter Tryz.func65, Tryz.ntmps65
  go_upto_region 1 with (fail)
  rw [← HW.out]
  go_wp2_with fail
  refine MY.out.mono ?_
  rintro e w1 ⟨rfl, b1⟩
  have B1 := Lib.hid (show Below W0.heap.size W0 w1 from b1)
  have kx := HK1.out.below b1 (by have := HS.out; omega)
  have x0 := kx.cell 0
  have x1 := kx.cell 1
  have x2 := kx.cell 2
  have x3 := kx.cell 3
  have x4 := kx.cell 4
  have x5 := kx.cell 5
  have x6 := kx.cell 6
  have L1 := bk_load (P := Tryz.prog) 8 kx rfl
  clear L0 b1 kx
  go_wp2_with fail
  refine (in_any _ _ _ _).mono ?_
  rintro e w9 ⟨rfl, rfl⟩
  go_wp2_with fail
  refine (in_any _ _ _ _).mono ?_
  rintro e w9 ⟨rfl, rfl⟩

  obtain ⟨W9, st, kk, fb, fh, fs⟩ := bk_store (P := Tryz.prog) (ty := 29) (cs := #[.int .i8 1, .int .i64 pid, .int .i64 0, .int .i64 tm, .int .i64 0, .slice none 0 0, .slice none 0 0, .int .i64 0]) 8 (HK3.out.below B1.out (by have := HS.out; omega)) infoCo rfl rfl (by simp [Value.oneCell'])
  have BB := Lib.hid (fb w.heap.size w (by omega) (HB.out.trans (B1.out.mono HB.out.size)))
  have KK := Lib.hid kk
  clear kk fb fh fs
  go_wp2_with fail
  refine bodyPost_ret (v := .tuple #[.agg #[.int .i8 1, .int .i64 pid, .int .i64 0, .int .i64 tm, .int .i64 0, .slice none 0 0, .slice none 0 0, .int .i64 0], .int .i64 0]) (rinit_ret ⟨1, pid, 0, tm, 0, [], [], 0⟩ none none 0 0 _ _ (w.heap.size + 1) _ rfl rfl KK.out) rfl ?_
  rw [HE.out, HC.out]
  exact ⟨none, none, 0, 0, rfl, ⟨Reads.none_, Reads.none_, Nat.zero_le _, Nat.zero_le _⟩, BB.out, fun b hb _ _ => ⟨offB_none', offB_none'⟩⟩
set_option maxRecDepth 100000 in
set_option maxHeartbeats 2000000 in
theorem rinit_e (c : Co) (A1 D1 : Option Addr) (c1 e1 : Nat) (pid tm : Int) (w : World) (h1 : CoR w w.heap.size c A1 D1) (h8 : -128 ≤ c.st) (h9 : c.st ≤ 127) (hmay : mayB c = true) (k : 1 ≤ pid ∧ pid ≤ 8 ∧ 1 ≤ tm ∧ tm ≤ 20) (k3 : ¬ c.st = 0) (k4 : idlB c = false) :
    Calls Tryz.prog 65 #[(.agg #[.int .i8 c.st, .int .i64 c.pid, .int .i64 c.ep, .int .i64 c.tm, .int .i64 c.th, .slice A1 c.ps.length c1, .slice D1 c.qs.length e1, .int .i64 c.ag]), .int .i64 pid, .int .i64 tm] w (MvP c A1 D1 (initC c pid tm) (initE c pid tm) w) := by

  have HE := Lib.hid (show initE c pid tm = 180 by unfold initE; rw [if_neg (by omega), chk_of hmay, begins_of hmay]; rw [if_neg k3]; by_cases h2 : c.st = 2 <;> simp [h2, k4])
  have HC := Lib.hid (show initC c pid tm = Co0 by unfold initC; rw [HE.out, if_neg (by decide)])
  have i1 : inB pid 1 8 = true := by unfold inB; simp; omega
  have i2 : inB tm 1 20 = true := by unfold inB; simp; omega
  have z0 : (c.st == 0) = false := by simpa using k3
  have ID := Lib.hid (fun W => idle_any c A1 D1 c1 e1 W)
  rw [k4] at ID
  obtain ⟨W0, hW0⟩ : ∃ W0, W0 = (w.alloc (.cells #[.int .i8 c.st, .int .i64 c.pid, .int .i64 c.ep, .int .i64 c.tm, .int .i64 c.th, .slice A1 c.ps.length c1, .slice D1 c.qs.length e1, .int .i64 c.ag] 29)).alloc (.cells #[.int .i8 0, .int .i64 0, .int .i64 0, .int .i64 0, .int .i64 0, .slice none 0 0, .slice none 0 0, .int .i64 0] 29) := ⟨_, rfl⟩
  have s0 : W0.heap.size = w.heap.size + 1 + 1 := by rw [hW0]; simp
  have B0 : Below w.heap.size w W0 := by rw [hW0]; exact bal (bal (Below.refl _ _) _) _
  have K1 : Blk W0 w.heap.size 29 #[.int .i8 c.st, .int .i64 c.pid, .int .i64 c.ep, .int .i64 c.tm, .int .i64 c.th, .slice A1 c.ps.length c1, .slice D1 c.qs.length e1, .int .i64 c.ag] := by rw [hW0]; exact (Blk.new w 29 #[.int .i8 c.st, .int .i64 c.pid, .int .i64 c.ep, .int .i64 c.tm, .int .i64 c.th, .slice A1 c.ps.length c1, .slice D1 c.qs.length e1, .int .i64 c.ag]).alloc _
  have K3 : Blk W0 (w.heap.size + 1) 29 #[.int .i8 0, .int .i64 0, .int .i64 0, .int .i64 0, .int .i64 0, .slice none 0 0, .slice none 0 0, .int .i64 0] := by rw [hW0]; exact bk_new _ 29 #[.int .i8 0, .int .i64 0, .int .i64 0, .int .i64 0, .int .i64 0, .slice none 0 0, .slice none 0 0, .int .i64 0] (by simp)
  have HW := Lib.hid hW0
  have HS := Lib.hid s0
  have HB := Lib.hid B0
  have HK1 := Lib.hid K1
  have HK3 := Lib.hid K3
  have H1 := Lib.hid h1
  have MY := Lib.hid (rMay_any c A1 D1 c1 e1 w.heap.size W0 (h1.below B0) B0.size h8 h9)
  rw [hmay] at MY
  have L0 := bk_load (P := Tryz.prog) 8 K1 rfl
  clear hW0 s0 B0 K1 K3 h1 h8 h9 hmay k k3 k4
  go_enter Tryz.func65, Tryz.ntmps65
  go_upto_region 1 with (fail)
  rw [← HW.out]
  go_wp2_with fail
  refine MY.out.mono ?_
  rintro e w1 ⟨rfl, b1⟩
  have B1 := Lib.hid (show Below W0.heap.size W0 w1 from b1)
  have kx := HK1.out.below b1 (by have := HS.out; omega)
  have x0 := kx.cell 0
  have x1 := kx.cell 1
  have x2 := kx.cell 2
  have x3 := kx.cell 3
  have x4 := kx.cell 4
  have x5 := kx.cell 5
  have x6 := kx.cell 6
  have L1 := bk_load (P := Tryz.prog) 8 kx rfl
  clear L0 b1 kx
  go_wp2_with fail
  refine (in_any _ _ _ _).mono ?_
  rintro e w9 ⟨rfl, rfl⟩
  go_wp2_with fail
  refine (in_any _ _ _ _).mono ?_
  rintro e w9 ⟨rfl, rfl⟩
  go_wp2_with fail
  refine (ID.out _).mono ?_
  rintro e w2 ⟨rfl, b2⟩
  have B2 := Lib.hid (B1.out.trans (b2.mono B1.out.size))
  have kx := HK1.out.below B2.out (by have := HS.out; omega)
  clear x0 x1 x2 x3 x4 x5 x6 L1
  have x0 := kx.cell 0
  have x1 := kx.cell 1
  have x2 := kx.cell 2
  have x3 := kx.cell 3
  have x4 := kx.cell 4
  have x5 := kx.cell 5
  have x6 := kx.cell 6
  have L1 := bk_load (P := Tryz.prog) 8 kx rfl
  clear b2 kx

  obtain ⟨W9, st, kk, fb, fh, fs⟩ := bk_store (P := Tryz.prog) (ty := 29) (cs := #[.int .i8 0, .int .i64 0, .int .i64 0, .int .i64 0, .int .i64 0, .slice none 0 0, .slice none 0 0, .int .i64 0]) 8 (HK3.out.below B2.out (by have := HS.out; omega)) infoCo rfl rfl (by simp [Value.oneCell'])
  have BB := Lib.hid (fb w.heap.size w (by omega) (HB.out.trans (B2.out.mono HB.out.size)))
  have KK := Lib.hid kk
  clear kk fb fh fs
  go_wp2_with fail
  refine bodyPost_ret (v := .tuple #[.agg #[.int .i8 0, .int .i64 0, .int .i64 0, .int .i64 0, .int .i64 0, .slice none 0 0, .slice none 0 0, .int .i64 0], .int .i64 180]) (rinit_ret Co0 none none 0 0 _ _ (w.heap.size + 1) _ rfl rfl KK.out) rfl ?_
  rw [HE.out, HC.out]
  exact ⟨none, none, 0, 0, rfl, ⟨Reads.none_, Reads.none_, Nat.zero_le _, Nat.zero_le _⟩, BB.out, fun b hb _ _ => ⟨offB_none', offB_none'⟩⟩
set_option maxRecDepth 100000 in
set_option maxHeartbeats 2000000 in
theorem rinit_f (c : Co) (A1 D1 : Option Addr) (c1 e1 : Nat) (pid tm : Int) (w : World) (h1 : CoR w w.heap.size c A1 D1) (h8 : -128 ≤ c.st) (h9 : c.st ≤ 127) (hmay : mayB c = true) (k : 1 ≤ pid ∧ pid ≤ 8 ∧ 1 ≤ tm ∧ tm ≤ 20) (k3 : ¬ c.st = 0) (k4 : idlB c = true) (k5 : c.ep = 100) :
    Calls Tryz.prog 65 #[(.agg #[.int .i8 c.st, .int .i64 c.pid, .int .i64 c.ep, .int .i64 c.tm, .int .i64 c.th, .slice A1 c.ps.length c1, .slice D1 c.qs.length e1, .int .i64 c.ag]), .int .i64 pid, .int .i64 tm] w (MvP c A1 D1 (initC c pid tm) (initE c pid tm) w) := by

  have HE := Lib.hid (show initE c pid tm = 102 by unfold initE; rw [if_neg (by omega), chk_of hmay, begins_of hmay]; rw [if_neg k3, if_neg (show ¬ c.st = 2 by have := (idl_iff c).1 k4; omega), if_pos k4]; rw [if_neg (by decide), if_pos (by omega)])
  have HC := Lib.hid (show initC c pid tm = Co0 by unfold initC; rw [HE.out, if_neg (by decide)])
  have i1 : inB pid 1 8 = true := by unfold inB; simp; omega
  have i2 : inB tm 1 20 = true := by unfold inB; simp; omega
  have z0 : (c.st == 0) = false := by simpa using k3
  have z5 : (c.ep == 100) = true := by rw [k5]; rfl
  have ID := Lib.hid (fun W => idle_any c A1 D1 c1 e1 W)
  rw [k4] at ID
  obtain ⟨W0, hW0⟩ : ∃ W0, W0 = (w.alloc (.cells #[.int .i8 c.st, .int .i64 c.pid, .int .i64 c.ep, .int .i64 c.tm, .int .i64 c.th, .slice A1 c.ps.length c1, .slice D1 c.qs.length e1, .int .i64 c.ag] 29)).alloc (.cells #[.int .i8 0, .int .i64 0, .int .i64 0, .int .i64 0, .int .i64 0, .slice none 0 0, .slice none 0 0, .int .i64 0] 29) := ⟨_, rfl⟩
  have s0 : W0.heap.size = w.heap.size + 1 + 1 := by rw [hW0]; simp
  have B0 : Below w.heap.size w W0 := by rw [hW0]; exact bal (bal (Below.refl _ _) _) _
  have K1 : Blk W0 w.heap.size 29 #[.int .i8 c.st, .int .i64 c.pid, .int .i64 c.ep, .int .i64 c.tm, .int .i64 c.th, .slice A1 c.ps.length c1, .slice D1 c.qs.length e1, .int .i64 c.ag] := by rw [hW0]; exact (Blk.new w 29 #[.int .i8 c.st, .int .i64 c.pid, .int .i64 c.ep, .int .i64 c.tm, .int .i64 c.th, .slice A1 c.ps.length c1, .slice D1 c.qs.length e1, .int .i64 c.ag]).alloc _
  have K3 : Blk W0 (w.heap.size + 1) 29 #[.int .i8 0, .int .i64 0, .int .i64 0, .int .i64 0, .int .i64 0, .slice none 0 0, .slice none 0 0, .int .i64 0] := by rw [hW0]; exact bk_new _ 29 #[.int .i8 0, .int .i64 0, .int .i64 0, .int .i64 0, .int .i64 0, .slice none 0 0, .slice none 0 0, .int .i64 0] (by simp)
  have HW := Lib.hid hW0
  have HS := Lib.hid s0
  have HB := Lib.hid B0
  have HK1 := Lib.hid K1
  have HK3 := Lib.hid K3
  have H1 := Lib.hid h1
  have MY := Lib.hid (rMay_any c A1 D1 c1 e1 w.heap.size W0 (h1.below B0) B0.size h8 h9)
  rw [hmay] at MY
  have L0 := bk_load (P := Tryz.prog) 8 K1 rfl
  clear hW0 s0 B0 K1 K3 h1 h8 h9 hmay k k3 k4 k5
  go_enter Tryz.func65, Tryz.ntmps65
  go_upto_region 1 with (fail)
  rw [← HW.out]
  go_wp2_with fail
  refine MY.out.mono ?_
  rintro e w1 ⟨rfl, b1⟩
  have B1 := Lib.hid (show Below W0.heap.size W0 w1 from b1)
  have kx := HK1.out.below b1 (by have := HS.out; omega)
  have x0 := kx.cell 0
  have x1 := kx.cell 1
  have x2 := kx.cell 2
  have x3 := kx.cell 3
  have x4 := kx.cell 4
  have x5 := kx.cell 5
  have x6 := kx.cell 6
  have L1 := bk_load (P := Tryz.prog) 8 kx rfl
  clear L0 b1 kx
  go_wp2_with fail
  refine (in_any _ _ _ _).mono ?_
  rintro e w9 ⟨rfl, rfl⟩
  go_wp2_with fail
  refine (in_any _ _ _ _).mono ?_
  rintro e w9 ⟨rfl, rfl⟩
  go_wp2_with fail
  refine (ID.out _).mono ?_
  rintro e w2 ⟨rfl, b2⟩
  have B2 := Lib.hid (B1.out.trans (b2.mono B1.out.size))
  have kx := HK1.out.below B2.out (by have := HS.out; omega)
  clear x0 x1 x2 x3 x4 x5 x6 L1
  have x0 := kx.cell 0
  have x1 := kx.cell 1
  have x2 := kx.cell 2
  have x3 := kx.cell 3
  have x4 := kx.cell 4
  have x5 := kx.cell 5
  have x6 := kx.cell 6
  have L1 := bk_load (P := Tryz.prog) 8 kx rfl
  clear b2 kx

  obtain ⟨W9, st, kk, fb, fh, fs⟩ := bk_store (P := Tryz.prog) (ty := 29) (cs := #[.int .i8 0, .int .i64 0, .int .i64 0, .int .i64 0, .int .i64 0, .slice none 0 0, .slice none 0 0, .int .i64 0]) 8 (HK3.out.below B2.out (by have := HS.out; omega)) infoCo rfl rfl (by simp [Value.oneCell'])
  have BB := Lib.hid (fb w.heap.size w (by omega) (HB.out.trans (B2.out.mono HB.out.size)))
  have KK := Lib.hid kk
  clear kk fb fh fs
  go_wp2_with fail
  refine bodyPost_ret (v := .tuple #[.agg #[.int .i8 0, .int .i64 0, .int .i64 0, .int .i64 0, .int .i64 0, .slice none 0 0, .slice none 0 0, .int .i64 0], .int .i64 102]) (rinit_ret Co0 none none 0 0 _ _ (w.heap.size + 1) _ rfl rfl KK.out) rfl ?_
  rw [HE.out, HC.out]
  exact ⟨none, none, 0, 0, rfl, ⟨Reads.none_, Reads.none_, Nat.zero_le _, Nat.zero_le _⟩, BB.out, fun b hb _ _ => ⟨offB_none', offB_none'⟩⟩
set_option maxRecDepth 100000 in
set_option maxHeartbeats 2000000 in
theorem rinit_g (c : Co) (A1 D1 : Option Addr) (c1 e1 : Nat) (pid tm : Int) (w : World) (h1 : CoR w w.heap.size c A1 D1) (h8 : -128 ≤ c.st) (h9 : c.st ≤ 127) (hmay : mayB c = true) (k : 1 ≤ pid ∧ pid ≤ 8 ∧ 1 ≤ tm ∧ tm ≤ 20) (k3 : ¬ c.st = 0) (k4 : idlB c = true) (k5 : ¬ c.ep = 100) :
    Calls Tryz.prog 65 #[(.agg #[.int .i8 c.st, .int .i64 c.pid, .int .i64 c.ep, .int .i64 c.tm, .int .i64 c.th, .slice A1 c.ps.length c1, .slice D1 c.qs.length e1, .int .i64 c.ag]), .int .i64 pid, .int .i64 tm] w (MvP c A1 D1 (initC c pid tm) (initE c pid tm) w) := by

  have HE := Lib.hid (show initE c pid tm = 0 by unfold initE; rw [if_neg (by omega), chk_of hmay, begins_of hmay]; rw [if_neg k3, if_neg (show ¬ c.st = 2 by have := (idl_iff c).1 k4; omega), if_pos k4]; rw [if_neg (by decide), if_neg (by have := may_ep hmay; omega)])
  have HC := Lib.hid (show initC c pid tm = ⟨1, c.pid, c.ep + 1, tm, 0, [], [], 0⟩ by unfold initC; rw [HE.out, if_pos rfl, if_neg k3])
  have i1 : inB pid 1 8 = true := by unfold inB; simp; omega
  have i2 : inB tm 1 20 = true := by unfold inB; simp; omega
  have z0 : (c.st == 0) = false := by simpa using k3
  have z5 : (c.ep == 100) = false := by simpa using k5
  have cw : IntKind.i64.wrap (c.ep + 1) = c.ep + 1 := IntWalk.i64_in _ (by have := may_ep hmay; omega)
  have ID := Lib.hid (fun W => idle_any c A1 D1 c1 e1 W)
  rw [k4] at ID
  obtain ⟨W0, hW0⟩ : ∃ W0, W0 = (w.alloc (.cells #[.int .i8 c.st, .int .i64 c.pid, .int .i64 c.ep, .int .i64 c.tm, .int .i64 c.th, .slice A1 c.ps.length c1, .slice D1 c.qs.length e1, .int .i64 c.ag] 29)).alloc (.cells #[.int .i8 0, .int .i64 0, .int .i64 0, .int .i64 0, .int .i64 0, .slice none 0 0, .slice none 0 0, .int .i64 0] 29) := ⟨_, rfl⟩
  have s0 : W0.heap.size = w.heap.size + 1 + 1 := by rw [hW0]; simp
  have B0 : Below w.heap.size w W0 := by rw [hW0]; exact bal (bal (Below.refl _ _) _) _
  have K1 : Blk W0 w.heap.size 29 #[.int .i8 c.st, .int .i64 c.pid, .int .i64 c.ep, .int .i64 c.tm, .int .i64 c.th, .slice A1 c.ps.length c1, .slice D1 c.qs.length e1, .int .i64 c.ag] := by rw [hW0]; exact (Blk.new w 29 #[.int .i8 c.st, .int .i64 c.pid, .int .i64 c.ep, .int .i64 c.tm, .int .i64 c.th, .slice A1 c.ps.length c1, .slice D1 c.qs.length e1, .int .i64 c.ag]).alloc _
  have K3 : Blk W0 (w.heap.size + 1) 29 #[.int .i8 0, .int .i64 0, .int .i64 0, .int .i64 0, .int .i64 0, .slice none 0 0, .slice none 0 0, .int .i64 0] := by rw [hW0]; exact bk_new _ 29 #[.int .i8 0, .int .i64 0, .int .i64 0, .int .i64 0, .int .i64 0, .slice none 0 0, .slice none 0 0, .int .i64 0] (by simp)
  have HW := Lib.hid hW0
  have HS := Lib.hid s0
  have HB := Lib.hid B0
  have HK1 := Lib.hid K1
  have HK3 := Lib.hid K3
  have H1 := Lib.hid h1
  have MY := Lib.hid (rMay_any c A1 D1 c1 e1 w.heap.size W0 (h1.below B0) B0.size h8 h9)
  rw [hmay] at MY
  have L0 := bk_load (P := Tryz.prog) 8 K1 rfl
  clear hW0 s0 B0 K1 K3 h1 h8 h9 hmay k k3 k4 k5
  go_enter Tryz.func65, Tryz.ntmps65
  go_upto_region 1 with (fail)
  rw [← HW.out]
  go_wp2_with fail
  refine MY.out.mono ?_
  rintro e w1 ⟨rfl, b1⟩
  have B1 := Lib.hid (show Below W0.heap.size W0 w1 from b1)
  have kx := HK1.out.below b1 (by have := HS.out; omega)
  have x0 := kx.cell 0
  have x1 := kx.cell 1
  have x2 := kx.cell 2
  have x3 := kx.cell 3
  have x4 := kx.cell 4
  have x5 := kx.cell 5
  have x6 := kx.cell 6
  have L1 := bk_load (P := Tryz.prog) 8 kx rfl
  clear L0 b1 kx
  go_wp2_with fail
  refine (in_any _ _ _ _).mono ?_
  rintro e w9 ⟨rfl, rfl⟩
  go_wp2_with fail
  refine (in_any _ _ _ _).mono ?_
  rintro e w9 ⟨rfl, rfl⟩
  go_wp2_with fail
  refine (ID.out _).mono ?_
  rintro e w2 ⟨rfl, b2⟩
  have B2 := Lib.hid (B1.out.trans (b2.mono B1.out.size))
  have kx := HK1.out.below B2.out (by have := HS.out; omega)
  clear x0 x1 x2 x3 x4 x5 x6 L1
  have x0 := kx.cell 0
  have x1 := kx.cell 1
  have x2 := kx.cell 2
  have x3 := kx.cell 3
  have x4 := kx.cell 4
  have x5 := kx.cell 5
  have x6 := kx.cell 6
  have L1 := bk_load (P := Tryz.prog) 8 kx rfl
  clear b2 kx

  obtain ⟨W9, st, kk, fb, fh, fs⟩ := bk_store (P := Tryz.prog) (ty := 29) (cs := #[.int .i8 1, .int .i64 c.pid, .int .i64 (c.ep + 1), .int .i64 tm, .int .i64 0, .slice none 0 0, .slice none 0 0, .int .i64 0]) 8 (HK3.out.below B2.out (by have := HS.out; omega)) infoCo rfl rfl (by simp [Value.oneCell'])
  have BB := Lib.hid (fb w.heap.size w (by omega) (HB.out.trans (B2.out.mono HB.out.size)))
  have KK := Lib.hid kk
  clear kk fb fh fs
  go_wp2_with fail
  refine bodyPost_ret (v := .tuple #[.agg #[.int .i8 1, .int .i64 c.pid, .int .i64 (c.ep + 1), .int .i64 tm, .int .i64 0, .slice none 0 0, .slice none 0 0, .int .i64 0], .int .i64 0]) (rinit_ret ⟨1, c.pid, c.ep + 1, tm, 0, [], [], 0⟩ none none 0 0 _ _ (w.heap.size + 1) _ rfl rfl KK.out) rfl ?_
  rw [HE.out, HC.out]
  exact ⟨none, none, 0, 0, rfl, ⟨Reads.none_, Reads.none_, Nat.zero_le _, Nat.zero_le _⟩, BB.out, fun b hb _ _ => ⟨offB_none', offB_none'⟩⟩
theorem rInit_any (c : Co) (A1 D1 : Option Addr) (c1 e1 : Nat) (pid tm : Int) (w : World) (h1 : CoR w w.heap.size c A1 D1) (h8 : -128 ≤ c.st) (h9 : c.st ≤ 127) :
    Calls Tryz.prog 65 #[(.agg #[.int .i8 c.st, .int .i64 c.pid, .int .i64 c.ep, .int .i64 c.tm, .int .i64 c.th, .slice A1 c.ps.length c1, .slice D1 c.qs.length e1, .int .i64 c.ag]), .int .i64 pid, .int .i64 tm] w (MvP c A1 D1 (initC c pid tm) (initE c pid tm) w) := by
  cases hm : mayB c
  · exact rinit_a c A1 D1 c1 e1 pid tm w h1 h8 h9 hm
  by_cases k : 1 ≤ pid ∧ pid ≤ 8
  · by_cases k2 : 1 ≤ tm ∧ tm ≤ 20
    · have kk : 1 ≤ pid ∧ pid ≤ 8 ∧ 1 ≤ tm ∧ tm ≤ 20 := ⟨k.1, k.2, k2⟩
      by_cases k3 : c.st = 0
      · exact rinit_d c A1 D1 c1 e1 pid tm w h1 h8 h9 hm kk k3
      cases k4 : idlB c
      · exact rinit_e c A1 D1 c1 e1 pid tm w h1 h8 h9 hm kk k3 k4
      by_cases k5 : c.ep = 100
      · exact rinit_f c A1 D1 c1 e1 pid tm w h1 h8 h9 hm kk k3 k4 k5
      · exact rinit_g c A1 D1 c1 e1 pid tm w h1 h8 h9 hm kk k3 k4 k5
    · exact rinit_c c A1 D1 c1 e1 pid tm w h1 h8 h9 hm k k2
  · exact rinit_b c A1 D1 c1 e1 pid tm w h1 h8 h9 hm k
set_option maxRecDepth 100000 in
theorem rprep_ret (x : Co) (A5 D5 : Option Addr) (c5 e5 : Nat) (n : Int) (tmps : Array Value) (b : Nat) (W : World) (h2 : tmps[6]?.getD undef = .pointer (some ⟨b, 0, none⟩)) (h3 : tmps[7]?.getD undef = .int .i64 n) (hK : Blk W b 29 #[.int .i8 x.st, .int .i64 x.pid, .int .i64 x.ep, .int .i64 x.tm, .int .i64 x.th, .slice A5 x.ps.length c5, .slice D5 x.qs.length e5, .int .i64 x.ag]) :
    (results Tryz.f95 tmps).run Tryz.prog W = .ok (.tuple #[(.agg #[.int .i8 x.st, .int .i64 x.pid, .int .i64 x.ep, .int .i64 x.tm, .int .i64 x.th, .slice A5 x.ps.length c5, .slice D5 x.qs.length e5, .int .i64 x.ag]), .int .i64 n]) W := by
  have LC := bk_load (P := Tryz.prog) 8 hK rfl
  clear hK
  simp [results, Tryz.results95, go_sem, h2, h3, LC]
set_option maxRecDepth 100000 in
set_option maxHeartbeats 2000000 in
theorem rprep_a (c : Co) (A1 D1 : Option Addr) (c1 e1 : Nat) (yes : Bool) (th : Int) (w : World) (h1 : CoR w w.heap.size c A1 D1) (h8 : -128 ≤ c.st) (h9 : c.st ≤ 127) (hmay : mayB c = false) :
    Calls Tryz.prog 95 #[(.agg #[.int .i8 c.st, .int .i64 c.pid, .int .i64 c.ep, .int .i64 c.tm, .int .i64 c.th, .slice A1 c.ps.length c1, .slice D1 c.qs.length e1, .int .i64 c.ag]), .bool yes, .int .i64 th] w (MvP c A1 D1 (prepC c yes th) (prepE c yes th) w) := by

  have HE := Lib.hid (show prepE c yes th = 2 by unfold prepE; rw [chk_no hmay]; by_cases hr : 0 ≤ th ∧ th ≤ 20 ∧ (yes = false ∨ th = 0) <;> simp [hr])
  have HC := Lib.hid (show prepC c yes th = Co0 by unfold prepC; rw [HE.out, if_neg (by decide)])

  obtain ⟨W0, hW0⟩ : ∃ W0, W0 = (w.alloc (.cells #[.int .i8 c.st, .int .i64 c.pid, .int .i64 c.ep, .int .i64 c.tm, .int .i64 c.th, .slice A1 c.ps.length c1, .slice D1 c.qs.length e1, .int .i64 c.ag] 29)).alloc (.cells #[.int .i8 0, .int .i64 0, .int .i64 0, .int .i64 0, .int .i64 0, .slice none 0 0, .slice none 0 0, .int .i64 0] 29) := ⟨_, rfl⟩
  have s0 : W0.heap.size = w.heap.size + 1 + 1 := by rw [hW0]; simp
  have B0 : Below w.heap.size w W0 := by rw [hW0]; exact bal (bal (Below.refl _ _) _) _
  have K1 : Blk W0 w.heap.size 29 #[.int .i8 c.st, .int .i64 c.pid, .int .i64 c.ep, .int .i64 c.tm, .int .i64 c.th, .slice A1 c.ps.length c1, .slice D1 c.qs.length e1, .int .i64 c.ag] := by rw [hW0]; exact (Blk.new w 29 #[.int .i8 c.st, .int .i64 c.pid, .int .i64 c.ep, .int .i64 c.tm, .int .i64 c.th, .slice A1 c.ps.length c1, .slice D1 c.qs.length e1, .int .i64 c.ag]).alloc _
  have K3 : Blk W0 (w.heap.size + 1) 29 #[.int .i8 0, .int .i64 0, .int .i64 0, .int .i64 0, .int .i64 0, .slice none 0 0, .slice none 0 0, .int .i64 0] := by rw [hW0]; exact bk_new _ 29 #[.int .i8 0, .int .i64 0, .int .i64 0, .int .i64 0, .int .i64 0, .slice none 0 0, .slice none 0 0, .int .i64 0] (by simp)
  have HW := Lib.hid hW0
  have HS := Lib.hid s0
  have HB := Lib.hid B0
  have HK1 := Lib.hid K1
  have HK3 := Lib.hid K3
  have H1 := Lib.hid h1
  have MY := Lib.hid (rMay_any c A1 D1 c1 e1 w.heap.size W0 (h1.below B0) B0.size h8 h9)
  rw [hmay] at MY
  have L0 := bk_load (P := Tryz.prog) 8 K1 rfl
  clear hW0 s0 B0 K1 K3 h1 h8 h9 hmay 
  go_enter Tryz.func95, Tryz.ntmps95
  go_upto_region 1 with (fail)
  rw [← HW.out]
  go_wp2_with fail
  refine MY.out.mono ?_
  rintro e w1 ⟨rfl, b1⟩
  have B1 := Lib.hid (show Below W0.heap.size W0 w1 from b1)
  have kx := HK1.out.below b1 (by have := HS.out; omega)
  have x0 := kx.cell 0
  have x1 := kx.cell 1
  have x2 := kx.cell 2
  have x3 := kx.cell 3
  have x4 := kx.cell 4
  have x5 := kx.cell 5
  have x6 := kx.cell 6
  have L1 := bk_load (P := Tryz.prog) 8 kx rfl
  clear L0 b1 kx
  obtain ⟨W9, st, kk, fb, fh, fs⟩ := bk_store (P := Tryz.prog) (ty := 29) (cs := #[.int .i8 0, .int .i64 0, .int .i64 0, .int .i64 0, .int .i64 0, .slice none 0 0, .slice none 0 0, .int .i64 0]) 8 (HK3.out.below B1.out (by have := HS.out; omega)) infoCo rfl rfl (by simp [Value.oneCell'])
  have BB := Lib.hid (fb w.heap.size w (by omega) (HB.out.trans (B1.out.mono HB.out.size)))
  have KK := Lib.hid kk
  clear kk fb fh fs
  go_wp2_with fail
  refine bodyPost_ret (v := .tuple #[.agg #[.int .i8 0, .int .i64 0, .int .i64 0, .int .i64 0, .int .i64 0, .slice none 0 0, .slice none 0 0, .int .i64 0], .int .i64 2]) (rprep_ret Co0 none none 0 0 _ _ (w.heap.size + 1) _ rfl rfl KK.out) rfl ?_
  rw [HE.out, HC.out]
  exact ⟨none, none, 0, 0, rfl, ⟨Reads.none_, Reads.none_, Nat.zero_le _, Nat.zero_le _⟩, BB.out, fun b hb _ _ => ⟨offB_none', offB_none'⟩⟩
set_option maxRecDepth 100000 in
set_option maxHeartbeats 2000000 in
theorem rprep_b (c : Co) (A1 D1 : Option Addr) (c1 e1 : Nat) (yes : Bool) (th : Int) (w : World) (h1 : CoR w w.heap.size c A1 D1) (h8 : -128 ≤ c.st) (h9 : c.st ≤ 127) (hmay : mayB c = true) (k : ¬ (0 ≤ th ∧ th ≤ 20)) :
    Calls Tryz.prog 95 #[(.agg #[.int .i8 c.st, .int .i64 c.pid, .int .i64 c.ep, .int .i64 c.tm, .int .i64 c.th, .slice A1 c.ps.length c1, .slice D1 c.qs.length e1, .int .i64 c.ag]), .bool yes, .int .i64 th] w (MvP c A1 D1 (prepC c yes th) (prepE c yes th) w) := by

  have HE := Lib.hid (show prepE c yes th = 2 by unfold prepE; rw [if_pos (fun h => k ⟨h.1, h.2.1⟩)])
  have HC := Lib.hid (show prepC c yes th = Co0 by unfold prepC; rw [HE.out, if_neg (by decide)])
  have i1 : inB th 0 20 = false := by unfold inB; simp; omega
  obtain ⟨W0, hW0⟩ : ∃ W0, W0 = (w.alloc (.cells #[.int .i8 c.st, .int .i64 c.pid, .int .i64 c.ep, .int .i64 c.tm, .int .i64 c.th, .slice A1 c.ps.length c1, .slice D1 c.qs.length e1, .int .i64 c.ag] 29)).alloc (.cells #[.int .i8 0, .int .i64 0, .int .i64 0, .int .i64 0, .int .i64 0, .slice none 0 0, .slice none 0 0, .int .i64 0] 29) := ⟨_, rfl⟩
  have s0 : W0.heap.size = w.heap.size + 1 + 1 := by rw [hW0]; simp
  have B0 : Below w.heap.size w W0 := by rw [hW0]; exact bal (bal (Below.refl _ _) _) _
  have K1 : Blk W0 w.heap.size 29 #[.int .i8 c.st, .int .i64 c.pid, .int .i64 c.ep, .int .i64 c.tm, .int .i64 c.th, .slice A1 c.ps.length c1, .slice D1 c.qs.length e1, .int .i64 c.ag] := by rw [hW0]; exact (Blk.new w 29 #[.int .i8 c.st, .int .i64 c.pid, .int .i64 c.ep, .int .i64 c.tm, .int .i64 c.th, .slice A1 c.ps.length c1, .slice D1 c.qs.length e1, .int .i64 c.ag]).alloc _
  have K3 : Blk W0 (w.heap.size + 1) 29 #[.int .i8 0, .int .i64 0, .int .i64 0, .int .i64 0, .int .i64 0, .slice none 0 0, .slice none 0 0, .int .i64 0] := by rw [hW0]; exact bk_new _ 29 #[.int .i8 0, .int .i64 0, .int .i64 0, .int .i64 0, .int .i64 0, .slice none 0 0, .slice none 0 0, .int .i64 0] (by simp)
  have HW := Lib.hid hW0
  have HS := Lib.hid s0
  have HB := Lib.hid B0
  have HK1 := Lib.hid K1
  have HK3 := Lib.hid K3
  have H1 := Lib.hid h1
  have MY := Lib.hid (rMay_any c A1 D1 c1 e1 w.heap.size W0 (h1.below B0) B0.size h8 h9)
  rw [hmay] at MY
  have L0 := bk_load (P := Tryz.prog) 8 K1 rfl
  clear hW0 s0 B0 K1 K3 h1 h8 h9 hmay k
  go_enter Tryz.func95, Tryz.ntmps95
  go_upto_region 1 with (fail)
  rw [← HW.out]
  go_wp2_with fail
  refine MY.out.mono ?_
  rintro e w1 ⟨rfl, b1⟩
  have B1 := Lib.hid (show Below W0.heap.size W0 w1 from b1)
  have kx := HK1.out.below b1 (by have := HS.out; omega)
  have x0 := kx.cell 0
  have x1 := kx.cell 1
  have x2 := kx.cell 2
  have x3 := kx.cell 3
  have x4 := kx.cell 4
  have x5 := kx.cell 5
  have x6 := kx.cell 6
  have L1 := bk_load (P := Tryz.prog) 8 kx rfl
  clear L0 b1 kx
  go_wp2_with fail
  refine (in_any _ _ _ _).mono ?_
  rintro e w9 ⟨rfl, rfl⟩

  obtain ⟨W9, st, kk, fb, fh, fs⟩ := bk_store (P := Tryz.prog) (ty := 29) (cs := #[.int .i8 0, .int .i64 0, .int .i64 0, .int .i64 0, .int .i64 0, .slice none 0 0, .slice none 0 0, .int .i64 0]) 8 (HK3.out.below B1.out (by have := HS.out; omega)) infoCo rfl rfl (by simp [Value.oneCell'])
  have BB := Lib.hid (fb w.heap.size w (by omega) (HB.out.trans (B1.out.mono HB.out.size)))
  have KK := Lib.hid kk
  clear kk fb fh fs
  go_wp2_with fail
  refine bodyPost_ret (v := .tuple #[.agg #[.int .i8 0, .int .i64 0, .int .i64 0, .int .i64 0, .int .i64 0, .slice none 0 0, .slice none 0 0, .int .i64 0], .int .i64 2]) (rprep_ret Co0 none none 0 0 _ _ (w.heap.size + 1) _ rfl rfl KK.out) rfl ?_
  rw [HE.out, HC.out]
  exact ⟨none, none, 0, 0, rfl, ⟨Reads.none_, Reads.none_, Nat.zero_le _, Nat.zero_le _⟩, BB.out, fun b hb _ _ => ⟨offB_none', offB_none'⟩⟩
set_option maxRecDepth 100000 in
set_option maxHeartbeats 2000000 in
theorem rprep_c (c : Co) (A1 D1 : Option Addr) (c1 e1 : Nat) (yes : Bool) (th : Int) (w : World) (h1 : CoR w w.heap.size c A1 D1) (h8 : -128 ≤ c.st) (h9 : c.st ≤ 127) (hmay : mayB c = true) (k : 0 ≤ th ∧ th ≤ 20) (ky : yes = true) (k2 : 0 < th) :
    Calls Tryz.prog 95 #[(.agg #[.int .i8 c.st, .int .i64 c.pid, .int .i64 c.ep, .int .i64 c.tm, .int .i64 c.th, .slice A1 c.ps.length c1, .slice D1 c.qs.length e1, .int .i64 c.ag]), .bool yes, .int .i64 th] w (MvP c A1 D1 (prepC c yes th) (prepE c yes th) w) := by

  have HE := Lib.hid (show prepE c yes th = 2 by unfold prepE; rw [if_pos (fun h => by rcases h.2.2 with h | h; rw [ky] at h; cases h; omega)])
  have HC := Lib.hid (show prepC c yes th = Co0 by unfold prepC; rw [HE.out, if_neg (by decide)])
  have i1 : inB th 0 20 = true := by unfold inB; simp; omega
  have t2 : decide (0 < th) = true := by simpa using k2
  subst ky
  obtain ⟨W0, hW0⟩ : ∃ W0, W0 = (w.alloc (.cells #[.int .i8 c.st, .int .i64 c.pid, .int .i64 c.ep, .int .i64 c.tm, .int .i64 c.th, .slice A1 c.ps.length c1, .slice D1 c.qs.length e1, .int .i64 c.ag] 29)).alloc (.cells #[.int .i8 0, .int .i64 0, .int .i64 0, .int .i64 0, .int .i64 0, .slice none 0 0, .slice none 0 0, .int .i64 0] 29) := ⟨_, rfl⟩
  have s0 : W0.heap.size = w.heap.size + 1 + 1 := by rw [hW0]; simp
  have B0 : Below w.heap.size w W0 := by rw [hW0]; exact bal (bal (Below.refl _ _) _) _
  have K1 : Blk W0 w.heap.size 29 #[.int .i8 c.st, .int .i64 c.pid, .int .i64 c.ep, .int .i64 c.tm, .int .i64 c.th, .slice A1 c.ps.length c1, .slice D1 c.qs.length e1, .int .i64 c.ag] := by rw [hW0]; exact (Blk.new w 29 #[.int .i8 c.st, .int .i64 c.pid, .int .i64 c.ep, .int .i64 c.tm, .int .i64 c.th, .slice A1 c.ps.length c1, .slice D1 c.qs.length e1, .int .i64 c.ag]).alloc _
  have K3 : Blk W0 (w.heap.size + 1) 29 #[.int .i8 0, .int .i64 0, .int .i64 0, .int .i64 0, .int .i64 0, .slice none 0 0, .slice none 0 0, .int .i64 0] := by rw [hW0]; exact bk_new _ 29 #[.int .i8 0, .int .i64 0, .int .i64 0, .int .i64 0, .int .i64 0, .slice none 0 0, .slice none 0 0, .int .i64 0] (by simp)
  have HW := Lib.hid hW0
  have HS := Lib.hid s0
  have HB := Lib.hid B0
  have HK1 := Lib.hid K1
  have HK3 := Lib.hid K3
  have H1 := Lib.hid h1
  have MY := Lib.hid (rMay_any c A1 D1 c1 e1 w.heap.size W0 (h1.below B0) B0.size h8 h9)
  rw [hmay] at MY
  have L0 := bk_load (P := Tryz.prog) 8 K1 rfl
  clear hW0 s0 B0 K1 K3 h1 h8 h9 hmay k k2
  go_enter Tryz.func95, Tryz.ntmps95
  go_upto_region 1 with (fail)
  rw [← HW.out]
  go_wp2_with fail
  refine MY.out.mono ?_
  rintro e w1 ⟨rfl, b1⟩
  have B1 := Lib.hid (show Below W0.heap.size W0 w1 from b1)
  have kx := HK1.out.below b1 (by have := HS.out; omega)
  have x0 := kx.cell 0
  have x1 := kx.cell 1
  have x2 := kx.cell 2
  have x3 := kx.cell 3
  have x4 := kx.cell 4
  have x5 := kx.cell 5
  have x6 := kx.cell 6
  have L1 := bk_load (P := Tryz.prog) 8 kx rfl
  clear L0 b1 kx
  go_wp2_with fail
  refine (in_any _ _ _ _).mono ?_
  rintro e w9 ⟨rfl, rfl⟩

  obtain ⟨W9, st, kk, fb, fh, fs⟩ := bk_store (P := Tryz.prog) (ty := 29) (cs := #[.int .i8 0, .int .i64 0, .int .i64 0, .int .i64 0, .int .i64 0, .slice none 0 0, .slice none 0 0, .int .i64 0]) 8 (HK3.out.below B1.out (by have := HS.out; omega)) infoCo rfl rfl (by simp [Value.oneCell'])
  have BB := Lib.hid (fb w.heap.size w (by omega) (HB.out.trans (B1.out.mono HB.out.size)))
  have KK := Lib.hid kk
  clear kk fb fh fs
  go_wp2_with fail
  refine bodyPost_ret (v := .tuple #[.agg #[.int .i8 0, .int .i64 0, .int .i64 0, .int .i64 0, .int .i64 0, .slice none 0 0, .slice none 0 0, .int .i64 0], .int .i64 2]) (rprep_ret Co0 none none 0 0 _ _ (w.heap.size + 1) _ rfl rfl KK.out) rfl ?_
  rw [HE.out, HC.out]
  exact ⟨none, none, 0, 0, rfl, ⟨Reads.none_, Reads.none_, Nat.zero_le _, Nat.zero_le _⟩, BB.out, fun b hb _ _ => ⟨offB_none', offB_none'⟩⟩
set_option maxRecDepth 100000 in
set_option maxHeartbeats 2000000 in
theorem rprep_en (c : Co) (A1 D1 : Option Addr) (c1 e1 : Nat) (yes : Bool) (th : Int) (w : World) (h1 : CoR w w.heap.size c A1 D1) (h8 : -128 ≤ c.st) (h9 : c.st ≤ 127) (hmay : mayB c = true) (k : 0 ≤ th ∧ th ≤ 20) (ky : yes = false ∨ th = 0) (kn : yes = false) (k3 : idlB c = false) (k4 : ¬ c.st = 2) :
    Calls Tryz.prog 95 #[(.agg #[.int .i8 c.st, .int .i64 c.pid, .int .i64 c.ep, .int .i64 c.tm, .int .i64 c.th, .slice A1 c.ps.length c1, .slice D1 c.qs.length e1, .int .i64 c.ag]), .bool yes, .int .i64 th] w (MvP c A1 D1 (prepC c yes th) (prepE c yes th) w) := by

  have HE := Lib.hid (show prepE c yes th = 180 by unfold prepE; rw [if_neg (fun h => h ⟨k.1, k.2, ky⟩), chk_of hmay, begins_of hmay]; by_cases h0 : c.st = 0 <;> simp [h0, k3, k4])
  have HC := Lib.hid (show prepC c yes th = Co0 by unfold prepC; rw [HE.out, if_neg (by decide)])
  have i1 : inB th 0 20 = true := by unfold inB; simp; omega
  have ID := Lib.hid (fun W => idle_any c A1 D1 c1 e1 W)
  rw [k3] at ID
  have z2 : (c.st != 2) = true := by simpa using k4
  subst kn
  obtain ⟨W0, hW0⟩ : ∃ W0, W0 = (w.alloc (.cells #[.int .i8 c.st, .int .i64 c.pid, .int .i64 c.ep, .int .i64 c.tm, .int .i64 c.th, .slice A1 c.ps.length c1, .slice D1 c.qs.length e1, .int .i64 c.ag] 29)).alloc (.cells #[.int .i8 0, .int .i64 0, .int .i64 0, .int .i64 0, .int .i64 0, .slice none 0 0, .slice none 0 0, .int .i64 0] 29) := ⟨_, rfl⟩
  have s0 : W0.heap.size = w.heap.size + 1 + 1 := by rw [hW0]; simp
  have B0 : Below w.heap.size w W0 := by rw [hW0]; exact bal (bal (Below.refl _ _) _) _
  have K1 : Blk W0 w.heap.size 29 #[.int .i8 c.st, .int .i64 c.pid, .int .i64 c.ep, .int .i64 c.tm, .int .i64 c.th, .slice A1 c.ps.length c1, .slice D1 c.qs.length e1, .int .i64 c.ag] := by rw [hW0]; exact (Blk.new w 29 #[.int .i8 c.st, .int .i64 c.pid, .int .i64 c.ep, .int .i64 c.tm, .int .i64 c.th, .slice A1 c.ps.length c1, .slice D1 c.qs.length e1, .int .i64 c.ag]).alloc _
  have K3 : Blk W0 (w.heap.size + 1) 29 #[.int .i8 0, .int .i64 0, .int .i64 0, .int .i64 0, .int .i64 0, .slice none 0 0, .slice none 0 0, .int .i64 0] := by rw [hW0]; exact bk_new _ 29 #[.int .i8 0, .int .i64 0, .int .i64 0, .int .i64 0, .int .i64 0, .slice none 0 0, .slice none 0 0, .int .i64 0] (by simp)
  have HW := Lib.hid hW0
  have HS := Lib.hid s0
  have HB := Lib.hid B0
  have HK1 := Lib.hid K1
  have HK3 := Lib.hid K3
  have H1 := Lib.hid h1
  have MY := Lib.hid (rMay_any c A1 D1 c1 e1 w.heap.size W0 (h1.below B0) B0.size h8 h9)
  rw [hmay] at MY
  have L0 := bk_load (P := Tryz.prog) 8 K1 rfl
  clear hW0 s0 B0 K1 K3 h1 h8 h9 hmay k ky k3 k4
  go_enter Tryz.func95, Tryz.ntmps95
  go_upto_region 1 with (fail)
  rw [← HW.out]
  go_wp2_with fail
  refine MY.out.mono ?_
  rintro e w1 ⟨rfl, b1⟩
  have B1 := Lib.hid (show Below W0.heap.size W0 w1 from b1)
  have kx := HK1.out.below b1 (by have := HS.out; omega)
  have x0 := kx.cell 0
  have x1 := kx.cell 1
  have x2 := kx.cell 2
  have x3 := kx.cell 3
  have x4 := kx.cell 4
  have x5 := kx.cell 5
  have x6 := kx.cell 6
  have L1 := bk_load (P := Tryz.prog) 8 kx rfl
  clear L0 b1 kx
  go_wp2_with fail
  refine (in_any _ _ _ _).mono ?_
  rintro e w9 ⟨rfl, rfl⟩
  go_wp2_with fail
  refine (ID.out _).mono ?_
  rintro e w2 ⟨rfl, b2⟩
  have B2 := Lib.hid (B1.out.trans (b2.mono B1.out.size))
  have kx := HK1.out.below B2.out (by have := HS.out; omega)
  clear x0 x1 x2 x3 x4 x5 x6 L1
  have x0 := kx.cell 0
  have x1 := kx.cell 1
  have x2 := kx.cell 2
  have x3 := kx.cell 3
  have x4 := kx.cell 4
  have x5 := kx.cell 5
  have x6 := kx.cell 6
  have L1 := bk_load (P := Tryz.prog) 8 kx rfl
  clear b2 kx

  obtain ⟨W9, st, kk, fb, fh, fs⟩ := bk_store (P := Tryz.prog) (ty := 29) (cs := #[.int .i8 0, .int .i64 0, .int .i64 0, .int .i64 0, .int .i64 0, .slice none 0 0, .slice none 0 0, .int .i64 0]) 8 (HK3.out.below B2.out (by have := HS.out; omega)) infoCo rfl rfl (by simp [Value.oneCell'])
  have BB := Lib.hid (fb w.heap.size w (by omega) (HB.out.trans (B2.out.mono HB.out.size)))
  have KK := Lib.hid kk
  clear kk fb fh fs
  go_wp2_with fail
  refine bodyPost_ret (v := .tuple #[.agg #[.int .i8 0, .int .i64 0, .int .i64 0, .int .i64 0, .int .i64 0, .slice none 0 0, .slice none 0 0, .int .i64 0], .int .i64 180]) (rprep_ret Co0 none none 0 0 _ _ (w.heap.size + 1) _ rfl rfl KK.out) rfl ?_
  rw [HE.out, HC.out]
  exact ⟨none, none, 0, 0, rfl, ⟨Reads.none_, Reads.none_, Nat.zero_le _, Nat.zero_le _⟩, BB.out, fun b hb _ _ => ⟨offB_none', offB_none'⟩⟩
set_option maxRecDepth 100000 in
set_option maxHeartbeats 2000000 in
theorem rprep_ey (c : Co) (A1 D1 : Option Addr) (c1 e1 : Nat) (yes : Bool) (th : Int) (w : World) (h1 : CoR w w.heap.size c A1 D1) (h8 : -128 ≤ c.st) (h9 : c.st ≤ 127) (hmay : mayB c = true) (k : 0 ≤ th ∧ th ≤ 20) (ky : yes = false ∨ th = 0) (kn : yes = true) (k0 : th = 0) (k3 : idlB c = false) (k4 : ¬ c.st = 2) :
    Calls Tryz.prog 95 #[(.agg #[.int .i8 c.st, .int .i64 c.pid, .int .i64 c.ep, .int .i64 c.tm, .int .i64 c.th, .slice A1 c.ps.length c1, .slice D1 c.qs.length e1, .int .i64 c.ag]), .bool yes, .int .i64 th] w (MvP c A1 D1 (prepC c yes th) (prepE c yes th) w) := by

  have HE := Lib.hid (show prepE c yes th = 180 by unfold prepE; rw [if_neg (fun h => h ⟨k.1, k.2, ky⟩), chk_of hmay, begins_of hmay]; by_cases h0 : c.st = 0 <;> simp [h0, k3, k4])
  have HC := Lib.hid (show prepC c yes th = Co0 by unfold prepC; rw [HE.out, if_neg (by decide)])
  have i1 : inB th 0 20 = true := by unfold inB; simp; omega
  have ID := Lib.hid (fun W => idle_any c A1 D1 c1 e1 W)
  rw [k3] at ID
  have z2 : (c.st != 2) = true := by simpa using k4
  have t2 : decide (0 < th) = false := by simp; omega
  subst kn
  obtain ⟨W0, hW0⟩ : ∃ W0, W0 = (w.alloc (.cells #[.int .i8 c.st, .int .i64 c.pid, .int .i64 c.ep, .int .i64 c.tm, .int .i64 c.th, .slice A1 c.ps.length c1, .slice D1 c.qs.length e1, .int .i64 c.ag] 29)).alloc (.cells #[.int .i8 0, .int .i64 0, .int .i64 0, .int .i64 0, .int .i64 0, .slice none 0 0, .slice none 0 0, .int .i64 0] 29) := ⟨_, rfl⟩
  have s0 : W0.heap.size = w.heap.size + 1 + 1 := by rw [hW0]; simp
  have B0 : Below w.heap.size w W0 := by rw [hW0]; exact bal (bal (Below.refl _ _) _) _
  have K1 : Blk W0 w.heap.size 29 #[.int .i8 c.st, .int .i64 c.pid, .int .i64 c.ep, .int .i64 c.tm, .int .i64 c.th, .slice A1 c.ps.length c1, .slice D1 c.qs.length e1, .int .i64 c.ag] := by rw [hW0]; exact (Blk.new w 29 #[.int .i8 c.st, .int .i64 c.pid, .int .i64 c.ep, .int .i64 c.tm, .int .i64 c.th, .slice A1 c.ps.length c1, .slice D1 c.qs.length e1, .int .i64 c.ag]).alloc _
  have K3 : Blk W0 (w.heap.size + 1) 29 #[.int .i8 0, .int .i64 0, .int .i64 0, .int .i64 0, .int .i64 0, .slice none 0 0, .slice none 0 0, .int .i64 0] := by rw [hW0]; exact bk_new _ 29 #[.int .i8 0, .int .i64 0, .int .i64 0, .int .i64 0, .int .i64 0, .slice none 0 0, .slice none 0 0, .int .i64 0] (by simp)
  have HW := Lib.hid hW0
  have HS := Lib.hid s0
  have HB := Lib.hid B0
  have HK1 := Lib.hid K1
  have HK3 := Lib.hid K3
  have H1 := Lib.hid h1
  have MY := Lib.hid (rMay_any c A1 D1 c1 e1 w.heap.size W0 (h1.below B0) B0.size h8 h9)
  rw [hmay] at MY
  have L0 := bk_load (P := Tryz.prog) 8 K1 rfl
  clear hW0 s0 B0 K1 K3 h1 h8 h9 hmay k ky k0 k3 k4
  go_enter Tryz.func95, Tryz.ntmps95
  go_upto_region 1 with (fail)
  rw [← HW.out]
  go_wp2_with fail
  refine MY.out.mono ?_
  rintro e w1 ⟨rfl, b1⟩
  have B1 := Lib.hid (show Below W0.heap.size W0 w1 from b1)
  have kx := HK1.out.below b1 (by have := HS.out; omega)
  have x0 := kx.cell 0
  have x1 := kx.cell 1
  have x2 := kx.cell 2
  have x3 := kx.cell 3
  have x4 := kx.cell 4
  have x5 := kx.cell 5
  have x6 := kx.cell 6
  have L1 := bk_load (P := Tryz.prog) 8 kx rfl
  clear L0 b1 kx
  go_wp2_with fail
  refine (in_any _ _ _ _).mono ?_
  rintro e w9 ⟨rfl, rfl⟩
  go_wp2_with fail
  refine (ID.out _).mono ?_
  rintro e w2 ⟨rfl, b2⟩
  have B2 := Lib.hid (B1.out.trans (b2.mono B1.out.size))
  have kx := HK1.out.below B2.out (by have := HS.out; omega)
  clear x0 x1 x2 x3 x4 x5 x6 L1
  have x0 := kx.cell 0
  have x1 := kx.cell 1
  have x2 := kx.cell 2
  have x3 := kx.cell 3
  have x4 := kx.cell 4
  have x5 := kx.cell 5
  have x6 := kx.cell 6
  have L1 := bk_load (P := Tryz.prog) 8 kx rfl
  clear b2 kx

  obtain ⟨W9, st, kk, fb, fh, fs⟩ := bk_store (P := Tryz.prog) (ty := 29) (cs := #[.int .i8 0, .int .i64 0, .int .i64 0, .int .i64 0, .int .i64 0, .slice none 0 0, .slice none 0 0, .int .i64 0]) 8 (HK3.out.below B2.out (by have := HS.out; omega)) infoCo rfl rfl (by simp [Value.oneCell'])
  have BB := Lib.hid (fb w.heap.size w (by omega) (HB.out.trans (B2.out.mono HB.out.size)))
  have KK := Lib.hid kk
  clear kk fb fh fs
  go_wp2_with fail
  refine bodyPost_ret (v := .tuple #[.agg #[.int .i8 0, .int .i64 0, .int .i64 0, .int .i64 0, .int .i64 0, .slice none 0 0, .slice none 0 0, .int .i64 0], .int .i64 180]) (rprep_ret Co0 none none 0 0 _ _ (w.heap.size + 1) _ rfl rfl KK.out) rfl ?_
  rw [HE.out, HC.out]
  exact ⟨none, none, 0, 0, rfl, ⟨Reads.none_, Reads.none_, Nat.zero_le _, Nat.zero_le _⟩, BB.out, fun b hb _ _ => ⟨offB_none', offB_none'⟩⟩
set_option maxRecDepth 100000 in
set_option maxHeartbeats 2000000 in
theorem rprep_hi (c : Co) (A1 D1 : Option Addr) (c1 e1 : Nat) (yes : Bool) (th : Int) (w : World) (h1 : CoR w w.heap.size c A1 D1) (h8 : -128 ≤ c.st) (h9 : c.st ≤ 127) (hmay : mayB c = true) (k : 0 ≤ th ∧ th ≤ 20) (ky : yes = false ∨ th = 0) (kn : yes = false) (k0 : 0 < th) (k5 : c.ep = 100) (k3 : idlB c = true ∨ c.st = 2) (k4 : idlB c = true) :
    Calls Tryz.prog 95 #[(.agg #[.int .i8 c.st, .int .i64 c.pid, .int .i64 c.ep, .int .i64 c.tm, .int .i64 c.th, .slice A1 c.ps.length c1, .slice D1 c.qs.length e1, .int .i64 c.ag]), .bool yes, .int .i64 th] w (MvP c A1 D1 (prepC c yes th) (prepE c yes th) w) := by

  have HE := Lib.hid (show prepE c yes th = 102 by unfold prepE; rw [if_neg (fun h => h ⟨k.1, k.2, ky⟩), chk_of hmay, begins_of hmay]; rw [if_neg (show ¬ c.st = 0 by rcases k3 with h | h; have := (idl_iff c).1 h; omega; omega)]; have hb : (if (if c.st = 2 then ((2 : Int) == 1) || ((2 : Int) == 2) || ((2 : Int) == 4) else if idlB c = true then ((2 : Int) == 0) || ((2 : Int) == 1) || ((2 : Int) == 2) else ((2 : Int) == 3)) = false then (180 : Int) else 0) = 0 := (by rcases k3 with h | h; by_cases h2 : c.st = 2; simp [h2]; simp [h2, h]; simp [h]); rw [hb]; rw [if_neg (by decide), if_pos ⟨k0, by omega⟩])
  have HC := Lib.hid (show prepC c yes th = Co0 by unfold prepC; rw [HE.out, if_neg (by decide)])
  have i1 : inB th 0 20 = true := by unfold inB; simp; omega
  have ID := Lib.hid (fun W => idle_any c A1 D1 c1 e1 W)
  rw [k4] at ID
  have t2 : decide (0 < th) = true := by simpa using k0
  have t5 : (c.ep == 100) = true := by rw [k5]; rfl
  subst kn
  obtain ⟨W0, hW0⟩ : ∃ W0, W0 = (w.alloc (.cells #[.int .i8 c.st, .int .i64 c.pid, .int .i64 c.ep, .int .i64 c.tm, .int .i64 c.th, .slice A1 c.ps.length c1, .slice D1 c.qs.length e1, .int .i64 c.ag] 29)).alloc (.cells #[.int .i8 0, .int .i64 0, .int .i64 0, .int .i64 0, .int .i64 0, .slice none 0 0, .slice none 0 0, .int .i64 0] 29) := ⟨_, rfl⟩
  have s0 : W0.heap.size = w.heap.size + 1 + 1 := by rw [hW0]; simp
  have B0 : Below w.heap.size w W0 := by rw [hW0]; exact bal (bal (Below.refl _ _) _) _
  have K1 : Blk W0 w.heap.size 29 #[.int .i8 c.st, .int .i64 c.pid, .int .i64 c.ep, .int .i64 c.tm, .int .i64 c.th, .slice A1 c.ps.length c1, .slice D1 c.qs.length e1, .int .i64 c.ag] := by rw [hW0]; exact (Blk.new w 29 #[.int .i8 c.st, .int .i64 c.pid, .int .i64 c.ep, .int .i64 c.tm, .int .i64 c.th, .slice A1 c.ps.length c1, .slice D1 c.qs.length e1, .int .i64 c.ag]).alloc _
  have K3 : Blk W0 (w.heap.size + 1) 29 #[.int .i8 0, .int .i64 0, .int .i64 0, .int .i64 0, .int .i64 0, .slice none 0 0, .slice none 0 0, .int .i64 0] := by rw [hW0]; exact bk_new _ 29 #[.int .i8 0, .int .i64 0, .int .i64 0, .int .i64 0, .int .i64 0, .slice none 0 0, .slice none 0 0, .int .i64 0] (by simp)
  have HW := Lib.hid hW0
  have HS := Lib.hid s0
  have HB := Lib.hid B0
  have HK1 := Lib.hid K1
  have HK3 := Lib.hid K3
  have H1 := Lib.hid h1
  have MY := Lib.hid (rMay_any c A1 D1 c1 e1 w.heap.size W0 (h1.below B0) B0.size h8 h9)
  rw [hmay] at MY
  have L0 := bk_load (P := Tryz.prog) 8 K1 rfl
  clear hW0 s0 B0 K1 K3 h1 h8 h9 hmay k ky k0 k5 k3 k4
  go_enter Tryz.func95, Tryz.ntmps95
  go_upto_region 1 with (fail)
  rw [← HW.out]
  go_wp2_with fail
  refine MY.out.mono ?_
  rintro e w1 ⟨rfl, b1⟩
  have B1 := Lib.hid (show Below W0.heap.size W0 w1 from b1)
  have kx := HK1.out.below b1 (by have := HS.out; omega)
  have x0 := kx.cell 0
  have x1 := kx.cell 1
  have x2 := kx.cell 2
  have x3 := kx.cell 3
  have x4 := kx.cell 4
  have x5 := kx.cell 5
  have x6 := kx.cell 6
  have L1 := bk_load (P := Tryz.prog) 8 kx rfl
  clear L0 b1 kx
  go_wp2_with fail
  refine (in_any _ _ _ _).mono ?_
  rintro e w9 ⟨rfl, rfl⟩
  go_wp2_with fail
  refine (ID.out _).mono ?_
  rintro e w2 ⟨rfl, b2⟩
  have B2 := Lib.hid (B1.out.trans (b2.mono B1.out.size))
  have kx := HK1.out.below B2.out (by have := HS.out; omega)
  clear x0 x1 x2 x3 x4 x5 x6 L1
  have x0 := kx.cell 0
  have x1 := kx.cell 1
  have x2 := kx.cell 2
  have x3 := kx.cell 3
  have x4 := kx.cell 4
  have x5 := kx.cell 5
  have x6 := kx.cell 6
  have L1 := bk_load (P := Tryz.prog) 8 kx rfl
  clear b2 kx

  obtain ⟨W9, st, kk, fb, fh, fs⟩ := bk_store (P := Tryz.prog) (ty := 29) (cs := #[.int .i8 0, .int .i64 0, .int .i64 0, .int .i64 0, .int .i64 0, .slice none 0 0, .slice none 0 0, .int .i64 0]) 8 (HK3.out.below B2.out (by have := HS.out; omega)) infoCo rfl rfl (by simp [Value.oneCell'])
  have BB := Lib.hid (fb w.heap.size w (by omega) (HB.out.trans (B2.out.mono HB.out.size)))
  have KK := Lib.hid kk
  clear kk fb fh fs
  go_wp2_with fail
  refine bodyPost_ret (v := .tuple #[.agg #[.int .i8 0, .int .i64 0, .int .i64 0, .int .i64 0, .int .i64 0, .slice none 0 0, .slice none 0 0, .int .i64 0], .int .i64 102]) (rprep_ret Co0 none none 0 0 _ _ (w.heap.size + 1) _ rfl rfl KK.out) rfl ?_
  rw [HE.out, HC.out]
  exact ⟨none, none, 0, 0, rfl, ⟨Reads.none_, Reads.none_, Nat.zero_le _, Nat.zero_le _⟩, BB.out, fun b hb _ _ => ⟨offB_none', offB_none'⟩⟩
set_option maxRecDepth 100000 in
set_option maxHeartbeats 2000000 in
theorem rprep_oip (c : Co) (A1 D1 : Option Addr) (c1 e1 : Nat) (yes : Bool) (th : Int) (w : World) (h1 : CoR w w.heap.size c A1 D1) (h8 : -128 ≤ c.st) (h9 : c.st ≤ 127) (hmay : mayB c = true) (k : 0 ≤ th ∧ th ≤ 20) (ky : yes = false ∨ th = 0) (kn : yes = false) (k0 : 0 < th) (k5 : ¬ c.ep = 100) (k3 : idlB c = true ∨ c.st = 2) (k4 : idlB c = true) :
    Calls Tryz.prog 95 #[(.agg #[.int .i8 c.st, .int .i64 c.pid, .int .i64 c.ep, .int .i64 c.tm, .int .i64 c.th, .slice A1 c.ps.length c1, .slice D1 c.qs.length e1, .int .i64 c.ag]), .bool yes, .int .i64 th] w (MvP c A1 D1 (prepC c yes th) (prepE c yes th) w) := by

  have HE := Lib.hid (show prepE c yes th = 0 by unfold prepE; rw [if_neg (fun h => h ⟨k.1, k.2, ky⟩), chk_of hmay, begins_of hmay]; rw [if_neg (show ¬ c.st = 0 by rcases k3 with h | h; have := (idl_iff c).1 h; omega; omega)]; have hb : (if (if c.st = 2 then ((2 : Int) == 1) || ((2 : Int) == 2) || ((2 : Int) == 4) else if idlB c = true then ((2 : Int) == 0) || ((2 : Int) == 1) || ((2 : Int) == 2) else ((2 : Int) == 3)) = false then (180 : Int) else 0) = 0 := (by rcases k3 with h | h; by_cases h2 : c.st = 2; simp [h2]; simp [h2, h]; simp [h]); rw [hb]; rw [if_neg (by decide), if_neg (by have := may_ep hmay; omega)])
  have HC := Lib.hid (show prepC c yes th = { c with st := 4, th := th } by unfold prepC; rw [HE.out, if_pos rfl, kn]; rfl)
  have i1 : inB th 0 20 = true := by unfold inB; simp; omega
  have ID := Lib.hid (fun W => idle_any c A1 D1 c1 e1 W)
  rw [k4] at ID
  have t2 : decide (0 < th) = true := by simpa using k0
  have t5 : (c.ep == 100) = false := by simpa using k5
  subst kn
  obtain ⟨W0, hW0⟩ : ∃ W0, W0 = (w.alloc (.cells #[.int .i8 c.st, .int .i64 c.pid, .int .i64 c.ep, .int .i64 c.tm, .int .i64 c.th, .slice A1 c.ps.length c1, .slice D1 c.qs.length e1, .int .i64 c.ag] 29)).alloc (.cells #[.int .i8 0, .int .i64 0, .int .i64 0, .int .i64 0, .int .i64 0, .slice none 0 0, .slice none 0 0, .int .i64 0] 29) := ⟨_, rfl⟩
  have s0 : W0.heap.size = w.heap.size + 1 + 1 := by rw [hW0]; simp
  have B0 : Below w.heap.size w W0 := by rw [hW0]; exact bal (bal (Below.refl _ _) _) _
  have K1 : Blk W0 w.heap.size 29 #[.int .i8 c.st, .int .i64 c.pid, .int .i64 c.ep, .int .i64 c.tm, .int .i64 c.th, .slice A1 c.ps.length c1, .slice D1 c.qs.length e1, .int .i64 c.ag] := by rw [hW0]; exact (Blk.new w 29 #[.int .i8 c.st, .int .i64 c.pid, .int .i64 c.ep, .int .i64 c.tm, .int .i64 c.th, .slice A1 c.ps.length c1, .slice D1 c.qs.length e1, .int .i64 c.ag]).alloc _
  have K3 : Blk W0 (w.heap.size + 1) 29 #[.int .i8 0, .int .i64 0, .int .i64 0, .int .i64 0, .int .i64 0, .slice none 0 0, .slice none 0 0, .int .i64 0] := by rw [hW0]; exact bk_new _ 29 #[.int .i8 0, .int .i64 0, .int .i64 0, .int .i64 0, .int .i64 0, .slice none 0 0, .slice none 0 0, .int .i64 0] (by simp)
  have HW := Lib.hid hW0
  have HS := Lib.hid s0
  have HB := Lib.hid B0
  have HK1 := Lib.hid K1
  have HK3 := Lib.hid K3
  have H1 := Lib.hid h1
  have MY := Lib.hid (rMay_any c A1 D1 c1 e1 w.heap.size W0 (h1.below B0) B0.size h8 h9)
  rw [hmay] at MY
  have L0 := bk_load (P := Tryz.prog) 8 K1 rfl
  clear hW0 s0 B0 K1 K3 h1 h8 h9 hmay k ky k0 k5 k3 k4
  go_enter Tryz.func95, Tryz.ntmps95
  go_upto_region 1 with (fail)
  rw [← HW.out]
  go_wp2_with fail
  refine MY.out.mono ?_
  rintro e w1 ⟨rfl, b1⟩
  have B1 := Lib.hid (show Below W0.heap.size W0 w1 from b1)
  have kx := HK1.out.below b1 (by have := HS.out; omega)
  have x0 := kx.cell 0
  have x1 := kx.cell 1
  have x2 := kx.cell 2
  have x3 := kx.cell 3
  have x4 := kx.cell 4
  have x5 := kx.cell 5
  have x6 := kx.cell 6
  have L1 := bk_load (P := Tryz.prog) 8 kx rfl
  clear L0 b1 kx
  go_wp2_with fail
  refine (in_any _ _ _ _).mono ?_
  rintro e w9 ⟨rfl, rfl⟩
  go_wp2_with fail
  refine (ID.out _).mono ?_
  rintro e w2 ⟨rfl, b2⟩
  have B2 := Lib.hid (B1.out.trans (b2.mono B1.out.size))
  have kx := HK1.out.below B2.out (by have := HS.out; omega)
  clear x0 x1 x2 x3 x4 x5 x6 L1
  have x0 := kx.cell 0
  have x1 := kx.cell 1
  have x2 := kx.cell 2
  have x3 := kx.cell 3
  have x4 := kx.cell 4
  have x5 := kx.cell 5
  have x6 := kx.cell 6
  have L1 := bk_load (P := Tryz.prog) 8 kx rfl
  clear b2 kx

  have k0 := HK1.out.below B2.out (by have := HS.out; omega)
  have st0 := store_i8 4 (k0.cell 0) (k0.frozen 0)
  have k1 : Blk (w2.setCell ⟨w.heap.size, 0, none⟩ (.int .i8 4)) w.heap.size 29 #[.int .i8 4, .int .i64 c.pid, .int .i64 c.ep, .int .i64 c.tm, .int .i64 c.th, .slice A1 c.ps.length c1, .slice D1 c.qs.length e1, .int .i64 c.ag] := k0.set_ 0 (.int .i8 4)
  have st1 := store_i64 th (k1.cell 4) (k1.frozen 4)
  have k2 : Blk ((w2.setCell ⟨w.heap.size, 0, none⟩ (.int .i8 4)).setCell ⟨w.heap.size, 4, none⟩ (.int .i64 th)) w.heap.size 29 #[.int .i8 4, .int .i64 c.pid, .int .i64 c.ep, .int .i64 c.tm, .int .i64 th, .slice A1 c.ps.length c1, .slice D1 c.qs.length e1, .int .i64 c.ag] := k1.set_ 4 (.int .i64 th)
  have hbig : ∀ y, y ≠ w.heap.size → ((w2.setCell ⟨w.heap.size, 0, none⟩ (.int .i8 4)).setCell ⟨w.heap.size, 4, none⟩ (.int .i64 th)).heap[y]? = w2.heap[y]? := fun y hy => by simp only [Below.heap_setCell _ ⟨w.heap.size, _, none⟩ _ _ (show y ≠ w.heap.size from hy)]
  have hsz : ((w2.setCell ⟨w.heap.size, 0, none⟩ (.int .i8 4)).setCell ⟨w.heap.size, 4, none⟩ (.int .i64 th)).heap.size = w2.heap.size := by simp [World.setCell]
  have KZ := Lib.hid k2
  have HH := Lib.hid (And.intro hbig hsz)
  have HOS := Lib.hid (show ((w2.setCell ⟨w.heap.size, 0, none⟩ (.int .i8 4)).setCell ⟨w.heap.size, 4, none⟩ (.int .i64 th)).os = w2.os ∧ ((w2.setCell ⟨w.heap.size, 0, none⟩ (.int .i8 4)).setCell ⟨w.heap.size, 4, none⟩ (.int .i64 th)).tape = w2.tape ∧ ((w2.setCell ⟨w.heap.size, 0, none⟩ (.int .i8 4)).setCell ⟨w.heap.size, 4, none⟩ (.int .i64 th)).output = w2.output from ⟨rfl, rfl, rfl⟩)
  clear hbig hsz k0 k1 k2
  go_upto_region 11 with (fail)
  clear x0 x1 x2 x3 x4 x5 x6 L1
  generalize ((w2.setCell ⟨w.heap.size, 0, none⟩ (.int .i8 4)).setCell ⟨w.heap.size, 4, none⟩ (.int .i64 th)) = W8 at *
  have L8 := bk_load (P := Tryz.prog) 8 KZ.out rfl
  have b8 : Below w.heap.size w W8 := by
    have hb := HB.out.trans (B2.out.mono HB.out.size)
    exact ⟨HOS.out.1.trans hb.os, HOS.out.2.1.trans hb.tape, HOS.out.2.2.trans hb.output, by rw [HH.out.2]; exact hb.size, fun y hy => by rw [HH.out.1 y (by omega)]; exact hb.block y hy⟩
  have k38 : Blk W8 (w.heap.size + 1) 29 #[.int .i8 0, .int .i64 0, .int .i64 0, .int .i64 0, .int .i64 0, .slice none 0 0, .slice none 0 0, .int .i64 0] := (HH.out.1 _ (by omega)).trans (HK3.out.below B2.out (by have := HS.out; omega))
  obtain ⟨W9, st, kk, fb, fh, fs⟩ := bk_store (P := Tryz.prog) (ty := 29) (cs := #[.int .i8 4, .int .i64 c.pid, .int .i64 c.ep, .int .i64 c.tm, .int .i64 th, .slice A1 c.ps.length c1, .slice D1 c.qs.length e1, .int .i64 c.ag]) 8 k38 infoCo rfl rfl (by simp [Value.oneCell'])
  have BB := Lib.hid (fb w.heap.size w (by omega) b8)
  have KK := Lib.hid kk
  clear kk fb fh fs b8 k38
  go_wp2_with fail
  refine bodyPost_ret (v := .tuple #[.agg #[.int .i8 4, .int .i64 c.pid, .int .i64 c.ep, .int .i64 c.tm, .int .i64 th, .slice A1 c.ps.length c1, .slice D1 c.qs.length e1, .int .i64 c.ag], .int .i64 0]) (rprep_ret { c with st := 4, th := th } A1 D1 c1 e1 0 _ (w.heap.size + 1) _ rfl rfl KK.out) rfl ?_
  rw [HE.out, HC.out]
  have rr := H1.out.up BB.out
  exact ⟨A1, D1, c1, e1, rfl, ⟨rr.1, rr.2.1, rr.2.2⟩, BB.out, fun b hb o1 o2 => ⟨o1, o2⟩⟩
set_option maxRecDepth 100000 in
set_option maxHeartbeats 2000000 in
theorem rprep_oiz (c : Co) (A1 D1 : Option Addr) (c1 e1 : Nat) (yes : Bool) (th : Int) (w : World) (h1 : CoR w w.heap.size c A1 D1) (h8 : -128 ≤ c.st) (h9 : c.st ≤ 127) (hmay : mayB c = true) (k : 0 ≤ th ∧ th ≤ 20) (ky : yes = false ∨ th = 0) (kn : yes = false) (k0 : th = 0) (k3 : idlB c = true ∨ c.st = 2) (k4 : idlB c = true) :
    Calls Tryz.prog 95 #[(.agg #[.int .i8 c.st, .int .i64 c.pid, .int .i64 c.ep, .int .i64 c.tm, .int .i64 c.th, .slice A1 c.ps.length c1, .slice D1 c.qs.length e1, .int .i64 c.ag]), .bool yes, .int .i64 th] w (MvP c A1 D1 (prepC c yes th) (prepE c yes th) w) := by

  have HE := Lib.hid (show prepE c yes th = 0 by unfold prepE; rw [if_neg (fun h => h ⟨k.1, k.2, ky⟩), chk_of hmay, begins_of hmay]; rw [if_neg (show ¬ c.st = 0 by rcases k3 with h | h; have := (idl_iff c).1 h; omega; omega)]; have hb : (if (if c.st = 2 then ((2 : Int) == 1) || ((2 : Int) == 2) || ((2 : Int) == 4) else if idlB c = true then ((2 : Int) == 0) || ((2 : Int) == 1) || ((2 : Int) == 2) else ((2 : Int) == 3)) = false then (180 : Int) else 0) = 0 := (by rcases k3 with h | h; by_cases h2 : c.st = 2; simp [h2]; simp [h2, h]; simp [h]); rw [hb]; rw [if_neg (by decide), if_neg (by have := may_ep hmay; omega)])
  have HC := Lib.hid (show prepC c yes th = { c with st := 4, th := th } by unfold prepC; rw [HE.out, if_pos rfl, kn]; rfl)
  have i1 : inB th 0 20 = true := by unfold inB; simp; omega
  have ID := Lib.hid (fun W => idle_any c A1 D1 c1 e1 W)
  rw [k4] at ID
  have t2 : decide (0 < th) = false := by simp; omega
  subst kn
  obtain ⟨W0, hW0⟩ : ∃ W0, W0 = (w.alloc (.cells #[.int .i8 c.st, .int .i64 c.pid, .int .i64 c.ep, .int .i64 c.tm, .int .i64 c.th, .slice A1 c.ps.length c1, .slice D1 c.qs.length e1, .int .i64 c.ag] 29)).alloc (.cells #[.int .i8 0, .int .i64 0, .int .i64 0, .int .i64 0, .int .i64 0, .slice none 0 0, .slice none 0 0, .int .i64 0] 29) := ⟨_, rfl⟩
  have s0 : W0.heap.size = w.heap.size + 1 + 1 := by rw [hW0]; simp
  have B0 : Below w.heap.size w W0 := by rw [hW0]; exact bal (bal (Below.refl _ _) _) _
  have K1 : Blk W0 w.heap.size 29 #[.int .i8 c.st, .int .i64 c.pid, .int .i64 c.ep, .int .i64 c.tm, .int .i64 c.th, .slice A1 c.ps.length c1, .slice D1 c.qs.length e1, .int .i64 c.ag] := by rw [hW0]; exact (Blk.new w 29 #[.int .i8 c.st, .int .i64 c.pid, .int .i64 c.ep, .int .i64 c.tm, .int .i64 c.th, .slice A1 c.ps.length c1, .slice D1 c.qs.length e1, .int .i64 c.ag]).alloc _
  have K3 : Blk W0 (w.heap.size + 1) 29 #[.int .i8 0, .int .i64 0, .int .i64 0, .int .i64 0, .int .i64 0, .slice none 0 0, .slice none 0 0, .int .i64 0] := by rw [hW0]; exact bk_new _ 29 #[.int .i8 0, .int .i64 0, .int .i64 0, .int .i64 0, .int .i64 0, .slice none 0 0, .slice none 0 0, .int .i64 0] (by simp)
  have HW := Lib.hid hW0
  have HS := Lib.hid s0
  have HB := Lib.hid B0
  have HK1 := Lib.hid K1
  have HK3 := Lib.hid K3
  have H1 := Lib.hid h1
  have MY := Lib.hid (rMay_any c A1 D1 c1 e1 w.heap.size W0 (h1.below B0) B0.size h8 h9)
  rw [hmay] at MY
  have L0 := bk_load (P := Tryz.prog) 8 K1 rfl
  clear hW0 s0 B0 K1 K3 h1 h8 h9 hmay k ky k0 k3 k4
  go_enter Tryz.func95, Tryz.ntmps95
  go_upto_region 1 with (fail)
  rw [← HW.out]
  go_wp2_with fail
  refine MY.out.mono ?_
  rintro e w1 ⟨rfl, b1⟩
  have B1 := Lib.hid (show Below W0.heap.size W0 w1 from b1)
  have kx := HK1.out.below b1 (by have := HS.out; omega)
  have x0 := kx.cell 0
  have x1 := kx.cell 1
  have x2 := kx.cell 2
  have x3 := kx.cell 3
  have x4 := kx.cell 4
  have x5 := kx.cell 5
  have x6 := kx.cell 6
  have L1 := bk_load (P := Tryz.prog) 8 kx rfl
  clear L0 b1 kx
  go_wp2_with fail
  refine (in_any _ _ _ _).mono ?_
  rintro e w9 ⟨rfl, rfl⟩
  go_wp2_with fail
  refine (ID.out _).mono ?_
  rintro e w2 ⟨rfl, b2⟩
  have B2 := Lib.hid (B1.out.trans (b2.mono B1.out.size))
  have kx := HK1.out.below B2.out (by have := HS.out; omega)
  clear x0 x1 x2 x3 x4 x5 x6 L1
  have x0 := kx.cell 0
  have x1 := kx.cell 1
  have x2 := kx.cell 2
  have x3 := kx.cell 3
  have x4 := kx.cell 4
  have x5 := kx.cell 5
  have x6 := kx.cell 6
  have L1 := bk_load (P := Tryz.prog) 8 kx rfl
  clear b2 kx

  have k0 := HK1.out.below B2.out (by have := HS.out; omega)
  have st0 := store_i8 4 (k0.cell 0) (k0.frozen 0)
  have k1 : Blk (w2.setCell ⟨w.heap.size, 0, none⟩ (.int .i8 4)) w.heap.size 29 #[.int .i8 4, .int .i64 c.pid, .int .i64 c.ep, .int .i64 c.tm, .int .i64 c.th, .slice A1 c.ps.length c1, .slice D1 c.qs.length e1, .int .i64 c.ag] := k0.set_ 0 (.int .i8 4)
  have st1 := store_i64 th (k1.cell 4) (k1.frozen 4)
  have k2 : Blk ((w2.setCell ⟨w.heap.size, 0, none⟩ (.int .i8 4)).setCell ⟨w.heap.size, 4, none⟩ (.int .i64 th)) w.heap.size 29 #[.int .i8 4, .int .i64 c.pid, .int .i64 c.ep, .int .i64 c.tm, .int .i64 th, .slice A1 c.ps.length c1, .slice D1 c.qs.length e1, .int .i64 c.ag] := k1.set_ 4 (.int .i64 th)
  have hbig : ∀ y, y ≠ w.heap.size → ((w2.setCell ⟨w.heap.size, 0, none⟩ (.int .i8 4)).setCell ⟨w.heap.size, 4, none⟩ (.int .i64 th)).heap[y]? = w2.heap[y]? := fun y hy => by simp only [Below.heap_setCell _ ⟨w.heap.size, _, none⟩ _ _ (show y ≠ w.heap.size from hy)]
  have hsz : ((w2.setCell ⟨w.heap.size, 0, none⟩ (.int .i8 4)).setCell ⟨w.heap.size, 4, none⟩ (.int .i64 th)).heap.size = w2.heap.size := by simp [World.setCell]
  have KZ := Lib.hid k2
  have HH := Lib.hid (And.intro hbig hsz)
  have HOS := Lib.hid (show ((w2.setCell ⟨w.heap.size, 0, none⟩ (.int .i8 4)).setCell ⟨w.heap.size, 4, none⟩ (.int .i64 th)).os = w2.os ∧ ((w2.setCell ⟨w.heap.size, 0, none⟩ (.int .i8 4)).setCell ⟨w.heap.size, 4, none⟩ (.int .i64 th)).tape = w2.tape ∧ ((w2.setCell ⟨w.heap.size, 0, none⟩ (.int .i8 4)).setCell ⟨w.heap.size, 4, none⟩ (.int .i64 th)).output = w2.output from ⟨rfl, rfl, rfl⟩)
  clear hbig hsz k0 k1 k2
  go_upto_region 11 with (fail)
  clear x0 x1 x2 x3 x4 x5 x6 L1
  generalize ((w2.setCell ⟨w.heap.size, 0, none⟩ (.int .i8 4)).setCell ⟨w.heap.size, 4, none⟩ (.int .i64 th)) = W8 at *
  have L8 := bk_load (P := Tryz.prog) 8 KZ.out rfl
  have b8 : Below w.heap.size w W8 := by
    have hb := HB.out.trans (B2.out.mono HB.out.size)
    exact ⟨HOS.out.1.trans hb.os, HOS.out.2.1.trans hb.tape, HOS.out.2.2.trans hb.output, by rw [HH.out.2]; exact hb.size, fun y hy => by rw [HH.out.1 y (by omega)]; exact hb.block y hy⟩
  have k38 : Blk W8 (w.heap.size + 1) 29 #[.int .i8 0, .int .i64 0, .int .i64 0, .int .i64 0, .int .i64 0, .slice none 0 0, .slice none 0 0, .int .i64 0] := (HH.out.1 _ (by omega)).trans (HK3.out.below B2.out (by have := HS.out; omega))
  obtain ⟨W9, st, kk, fb, fh, fs⟩ := bk_store (P := Tryz.prog) (ty := 29) (cs := #[.int .i8 4, .int .i64 c.pid, .int .i64 c.ep, .int .i64 c.tm, .int .i64 th, .slice A1 c.ps.length c1, .slice D1 c.qs.length e1, .int .i64 c.ag]) 8 k38 infoCo rfl rfl (by simp [Value.oneCell'])
  have BB := Lib.hid (fb w.heap.size w (by omega) b8)
  have KK := Lib.hid kk
  clear kk fb fh fs b8 k38
  go_wp2_with fail
  refine bodyPost_ret (v := .tuple #[.agg #[.int .i8 4, .int .i64 c.pid, .int .i64 c.ep, .int .i64 c.tm, .int .i64 th, .slice A1 c.ps.length c1, .slice D1 c.qs.length e1, .int .i64 c.ag], .int .i64 0]) (rprep_ret { c with st := 4, th := th } A1 D1 c1 e1 0 _ (w.heap.size + 1) _ rfl rfl KK.out) rfl ?_
  rw [HE.out, HC.out]
  have rr := H1.out.up BB.out
  exact ⟨A1, D1, c1, e1, rfl, ⟨rr.1, rr.2.1, rr.2.2⟩, BB.out, fun b hb o1 o2 => ⟨o1, o2⟩⟩
set_option maxRecDepth 100000 in
set_option maxHeartbeats 2000000 in
theorem rprep_oiy (c : Co) (A1 D1 : Option Addr) (c1 e1 : Nat) (yes : Bool) (th : Int) (w : World) (h1 : CoR w w.heap.size c A1 D1) (h8 : -128 ≤ c.st) (h9 : c.st ≤ 127) (hmay : mayB c = true) (k : 0 ≤ th ∧ th ≤ 20) (ky : yes = false ∨ th = 0) (kn : yes = true) (k0 : th = 0) (k3 : idlB c = true ∨ c.st = 2) (k4 : idlB c = true) :
    Calls Tryz.prog 95 #[(.agg #[.int .i8 c.st, .int .i64 c.pid, .int .i64 c.ep, .int .i64 c.tm, .int .i64 c.th, .slice A1 c.ps.length c1, .slice D1 c.qs.length e1, .int .i64 c.ag]), .bool yes, .int .i64 th] w (MvP c A1 D1 (prepC c yes th) (prepE c yes th) w) := by

  have HE := Lib.hid (show prepE c yes th = 0 by unfold prepE; rw [if_neg (fun h => h ⟨k.1, k.2, ky⟩), chk_of hmay, begins_of hmay]; rw [if_neg (show ¬ c.st = 0 by rcases k3 with h | h; have := (idl_iff c).1 h; omega; omega)]; have hb : (if (if c.st = 2 then ((2 : Int) == 1) || ((2 : Int) == 2) || ((2 : Int) == 4) else if idlB c = true then ((2 : Int) == 0) || ((2 : Int) == 1) || ((2 : Int) == 2) else ((2 : Int) == 3)) = false then (180 : Int) else 0) = 0 := (by rcases k3 with h | h; by_cases h2 : c.st = 2; simp [h2]; simp [h2, h]; simp [h]); rw [hb]; rw [if_neg (by decide), if_neg (by have := may_ep hmay; omega)])
  have HC := Lib.hid (show prepC c yes th = { c with st := 3, th := th } by unfold prepC; rw [HE.out, if_pos rfl, kn]; rfl)
  have i1 : inB th 0 20 = true := by unfold inB; simp; omega
  have ID := Lib.hid (fun W => idle_any c A1 D1 c1 e1 W)
  rw [k4] at ID
  have t2 : decide (0 < th) = false := by simp; omega
  subst kn
  obtain ⟨W0, hW0⟩ : ∃ W0, W0 = (w.alloc (.cells #[.int .i8 c.st, .int .i64 c.pid, .int .i64 c.ep, .int .i64 c.tm, .int .i64 c.th, .slice A1 c.ps.length c1, .slice D1 c.qs.length e1, .int .i64 c.ag] 29)).alloc (.cells #[.int .i8 0, .int .i64 0, .int .i64 0, .int .i64 0, .int .i64 0, .slice none 0 0, .slice none 0 0, .int .i64 0] 29) := ⟨_, rfl⟩
  have s0 : W0.heap.size = w.heap.size + 1 + 1 := by rw [hW0]; simp
  have B0 : Below w.heap.size w W0 := by rw [hW0]; exact bal (bal (Below.refl _ _) _) _
  have K1 : Blk W0 w.heap.size 29 #[.int .i8 c.st, .int .i64 c.pid, .int .i64 c.ep, .int .i64 c.tm, .int .i64 c.th, .slice A1 c.ps.length c1, .slice D1 c.qs.length e1, .int .i64 c.ag] := by rw [hW0]; exact (Blk.new w 29 #[.int .i8 c.st, .int .i64 c.pid, .int .i64 c.ep, .int .i64 c.tm, .int .i64 c.th, .slice A1 c.ps.length c1, .slice D1 c.qs.length e1, .int .i64 c.ag]).alloc _
  have K3 : Blk W0 (w.heap.size + 1) 29 #[.int .i8 0, .int .i64 0, .int .i64 0, .int .i64 0, .int .i64 0, .slice none 0 0, .slice none 0 0, .int .i64 0] := by rw [hW0]; exact bk_new _ 29 #[.int .i8 0, .int .i64 0, .int .i64 0, .int .i64 0, .int .i64 0, .slice none 0 0, .slice none 0 0, .int .i64 0] (by simp)
  have HW := Lib.hid hW0
  have HS := Lib.hid s0
  have HB := Lib.hid B0
  have HK1 := Lib.hid K1
  have HK3 := Lib.hid K3
  have H1 := Lib.hid h1
  have MY := Lib.hid (rMay_any c A1 D1 c1 e1 w.heap.size W0 (h1.below B0) B0.size h8 h9)
  rw [hmay] at MY
  have L0 := bk_load (P := Tryz.prog) 8 K1 rfl
  clear hW0 s0 B0 K1 K3 h1 h8 h9 hmay k ky k0 k3 k4
  go_enter Tryz.func95, Tryz.ntmps95
  go_upto_region 1 with (fail)
  rw [← HW.out]
  go_wp2_with fail
  refine MY.out.mono ?_
  rintro e w1 ⟨rfl, b1⟩
  have B1 := Lib.hid (show Below W0.heap.size W0 w1 from b1)
  have kx := HK1.out.below b1 (by have := HS.out; omega)
  have x0 := kx.cell 0
  have x1 := kx.cell 1
  have x2 := kx.cell 2
  have x3 := kx.cell 3
  have x4 := kx.cell 4
  have x5 := kx.cell 5
  have x6 := kx.cell 6
  have L1 := bk_load (P := Tryz.prog) 8 kx rfl
  clear L0 b1 kx
  go_wp2_with fail
  refine (in_any _ _ _ _).mono ?_
  rintro e w9 ⟨rfl, rfl⟩
  go_wp2_with fail
  refine (ID.out _).mono ?_
  rintro e w2 ⟨rfl, b2⟩
  have B2 := Lib.hid (B1.out.trans (b2.mono B1.out.size))
  have kx := HK1.out.below B2.out (by have := HS.out; omega)
  clear x0 x1 x2 x3 x4 x5 x6 L1
  have x0 := kx.cell 0
  have x1 := kx.cell 1
  have x2 := kx.cell 2
  have x3 := kx.cell 3
  have x4 := kx.cell 4
  have x5 := kx.cell 5
  have x6 := kx.cell 6
  have L1 := bk_load (P := Tryz.prog) 8 kx rfl
  clear b2 kx

  have k0 := HK1.out.below B2.out (by have := HS.out; omega)
  have st0 := store_i8 4 (k0.cell 0) (k0.frozen 0)
  have k1 : Blk (w2.setCell ⟨w.heap.size, 0, none⟩ (.int .i8 4)) w.heap.size 29 #[.int .i8 4, .int .i64 c.pid, .int .i64 c.ep, .int .i64 c.tm, .int .i64 c.th, .slice A1 c.ps.length c1, .slice D1 c.qs.length e1, .int .i64 c.ag] := k0.set_ 0 (.int .i8 4)
  have st1 := store_i8 3 (k1.cell 0) (k1.frozen 0)
  have k2 : Blk ((w2.setCell ⟨w.heap.size, 0, none⟩ (.int .i8 4)).setCell ⟨w.heap.size, 0, none⟩ (.int .i8 3)) w.heap.size 29 #[.int .i8 3, .int .i64 c.pid, .int .i64 c.ep, .int .i64 c.tm, .int .i64 c.th, .slice A1 c.ps.length c1, .slice D1 c.qs.length e1, .int .i64 c.ag] := k1.set_ 0 (.int .i8 3)
  have st2 := store_i64 th (k2.cell 4) (k2.frozen 4)
  have k3 : Blk (((w2.setCell ⟨w.heap.size, 0, none⟩ (.int .i8 4)).setCell ⟨w.heap.size, 0, none⟩ (.int .i8 3)).setCell ⟨w.heap.size, 4, none⟩ (.int .i64 th)) w.heap.size 29 #[.int .i8 3, .int .i64 c.pid, .int .i64 c.ep, .int .i64 c.tm, .int .i64 th, .slice A1 c.ps.length c1, .slice D1 c.qs.length e1, .int .i64 c.ag] := k2.set_ 4 (.int .i64 th)
  have hbig : ∀ y, y ≠ w.heap.size → (((w2.setCell ⟨w.heap.size, 0, none⟩ (.int .i8 4)).setCell ⟨w.heap.size, 0, none⟩ (.int .i8 3)).setCell ⟨w.heap.size, 4, none⟩ (.int .i64 th)).heap[y]? = w2.heap[y]? := fun y hy => by simp only [Below.heap_setCell _ ⟨w.heap.size, _, none⟩ _ _ (show y ≠ w.heap.size from hy)]
  have hsz : (((w2.setCell ⟨w.heap.size, 0, none⟩ (.int .i8 4)).setCell ⟨w.heap.size, 0, none⟩ (.int .i8 3)).setCell ⟨w.heap.size, 4, none⟩ (.int .i64 th)).heap.size = w2.heap.size := by simp [World.setCell]
  have KZ := Lib.hid k3
  have HH := Lib.hid (And.intro hbig hsz)
  have HOS := Lib.hid (show (((w2.setCell ⟨w.heap.size, 0, none⟩ (.int .i8 4)).setCell ⟨w.heap.size, 0, none⟩ (.int .i8 3)).setCell ⟨w.heap.size, 4, none⟩ (.int .i64 th)).os = w2.os ∧ (((w2.setCell ⟨w.heap.size, 0, none⟩ (.int .i8 4)).setCell ⟨w.heap.size, 0, none⟩ (.int .i8 3)).setCell ⟨w.heap.size, 4, none⟩ (.int .i64 th)).tape = w2.tape ∧ (((w2.setCell ⟨w.heap.size, 0, none⟩ (.int .i8 4)).setCell ⟨w.heap.size, 0, none⟩ (.int .i8 3)).setCell ⟨w.heap.size, 4, none⟩ (.int .i64 th)).output = w2.output from ⟨rfl, rfl, rfl⟩)
  clear hbig hsz k0 k1 k2 k3
  go_upto_region 11 with (fail)
  clear x0 x1 x2 x3 x4 x5 x6 L1
  generalize (((w2.setCell ⟨w.heap.size, 0, none⟩ (.int .i8 4)).setCell ⟨w.heap.size, 0, none⟩ (.int .i8 3)).setCell ⟨w.heap.size, 4, none⟩ (.int .i64 th)) = W8 at *
  have L8 := bk_load (P := Tryz.prog) 8 KZ.out rfl
  have b8 : Below w.heap.size w W8 := by
    have hb := HB.out.trans (B2.out.mono HB.out.size)
    exact ⟨HOS.out.1.trans hb.os, HOS.out.2.1.trans hb.tape, HOS.out.2.2.trans hb.output, by rw [HH.out.2]; exact hb.size, fun y hy => by rw [HH.out.1 y (by omega)]; exact hb.block y hy⟩
  have k38 : Blk W8 (w.heap.size + 1) 29 #[.int .i8 0, .int .i64 0, .int .i64 0, .int .i64 0, .int .i64 0, .slice none 0 0, .slice none 0 0, .int .i64 0] := (HH.out.1 _ (by omega)).trans (HK3.out.below B2.out (by have := HS.out; omega))
  obtain ⟨W9, st, kk, fb, fh, fs⟩ := bk_store (P := Tryz.prog) (ty := 29) (cs := #[.int .i8 3, .int .i64 c.pid, .int .i64 c.ep, .int .i64 c.tm, .int .i64 th, .slice A1 c.ps.length c1, .slice D1 c.qs.length e1, .int .i64 c.ag]) 8 k38 infoCo rfl rfl (by simp [Value.oneCell'])
  have BB := Lib.hid (fb w.heap.size w (by omega) b8)
  have KK := Lib.hid kk
  clear kk fb fh fs b8 k38
  go_wp2_with fail
  refine bodyPost_ret (v := .tuple #[.agg #[.int .i8 3, .int .i64 c.pid, .int .i64 c.ep, .int .i64 c.tm, .int .i64 th, .slice A1 c.ps.length c1, .slice D1 c.qs.length e1, .int .i64 c.ag], .int .i64 0]) (rprep_ret { c with st := 3, th := th } A1 D1 c1 e1 0 _ (w.heap.size + 1) _ rfl rfl KK.out) rfl ?_
  rw [HE.out, HC.out]
  have rr := H1.out.up BB.out
  exact ⟨A1, D1, c1, e1, rfl, ⟨rr.1, rr.2.1, rr.2.2⟩, BB.out, fun b hb o1 o2 => ⟨o1, o2⟩⟩
set_option maxRecDepth 100000 in
set_option maxHeartbeats 2000000 in
theorem rprep_hg (c : Co) (A1 D1 : Option Addr) (c1 e1 : Nat) (yes : Bool) (th : Int) (w : World) (h1 : CoR w w.heap.size c A1 D1) (h8 : -128 ≤ c.st) (h9 : c.st ≤ 127) (hmay : mayB c = true) (k : 0 ≤ th ∧ th ≤ 20) (ky : yes = false ∨ th = 0) (kn : yes = false) (k0 : 0 < th) (k5 : c.ep = 100) (k3 : idlB c = true ∨ c.st = 2) (k4 : idlB c = false) (k6 : c.st = 2) :
    Calls Tryz.prog 95 #[(.agg #[.int .i8 c.st, .int .i64 c.pid, .int .i64 c.ep, .int .i64 c.tm, .int .i64 c.th, .slice A1 c.ps.length c1, .slice D1 c.qs.length e1, .int .i64 c.ag]), .bool yes, .int .i64 th] w (MvP c A1 D1 (prepC c yes th) (prepE c yes th) w) := by

  have HE := Lib.hid (show prepE c yes th = 102 by unfold prepE; rw [if_neg (fun h => h ⟨k.1, k.2, ky⟩), chk_of hmay, begins_of hmay]; rw [if_neg (show ¬ c.st = 0 by rcases k3 with h | h; have := (idl_iff c).1 h; omega; omega)]; have hb : (if (if c.st = 2 then ((2 : Int) == 1) || ((2 : Int) == 2) || ((2 : Int) == 4) else if idlB c = true then ((2 : Int) == 0) || ((2 : Int) == 1) || ((2 : Int) == 2) else ((2 : Int) == 3)) = false then (180 : Int) else 0) = 0 := (by rcases k3 with h | h; by_cases h2 : c.st = 2; simp [h2]; simp [h2, h]; simp [h]); rw [hb]; rw [if_neg (by decide), if_pos ⟨k0, by omega⟩])
  have HC := Lib.hid (show prepC c yes th = Co0 by unfold prepC; rw [HE.out, if_neg (by decide)])
  have i1 : inB th 0 20 = true := by unfold inB; simp; omega
  have ID := Lib.hid (fun W => idle_any c A1 D1 c1 e1 W)
  rw [k4] at ID
  have z2 : (c.st != 2) = false := by rw [k6]; rfl
  have t2 : decide (0 < th) = true := by simpa using k0
  have t5 : (c.ep == 100) = true := by rw [k5]; rfl
  subst kn
  obtain ⟨W0, hW0⟩ : ∃ W0, W0 = (w.alloc (.cells #[.int .i8 c.st, .int .i64 c.pid, .int .i64 c.ep, .int .i64 c.tm, .int .i64 c.th, .slice A1 c.ps.length c1, .slice D1 c.qs.length e1, .int .i64 c.ag] 29)).alloc (.cells #[.int .i8 0, .int .i64 0, .int .i64 0, .int .i64 0, .int .i64 0, .slice none 0 0, .slice none 0 0, .int .i64 0] 29) := ⟨_, rfl⟩
  have s0 : W0.heap.size = w.heap.size + 1 + 1 := by rw [hW0]; simp
  have B0 : Below w.heap.size w W0 := by rw [hW0]; exact bal (bal (Below.refl _ _) _) _
  have K1 : Blk W0 w.heap.size 29 #[.int .i8 c.st, .int .i64 c.pid, .int .i64 c.ep, .int .i64 c.tm, .int .i64 c.th, .slice A1 c.ps.length c1, .slice D1 c.qs.length e1, .int .i64 c.ag] := by rw [hW0]; exact (Blk.new w 29 #[.int .i8 c.st, .int .i64 c.pid, .int .i64 c.ep, .int .i64 c.tm, .int .i64 c.th, .slice A1 c.ps.length c1, .slice D1 c.qs.length e1, .int .i64 c.ag]).alloc _
  have K3 : Blk W0 (w.heap.size + 1) 29 #[.int .i8 0, .int .i64 0, .int .i64 0, .int .i64 0, .int .i64 0, .slice none 0 0, .slice none 0 0, .int .i64 0] := by rw [hW0]; exact bk_new _ 29 #[.int .i8 0, .int .i64 0, .int .i64 0, .int .i64 0, .int .i64 0, .slice none 0 0, .slice none 0 0, .int .i64 0] (by simp)
  have HW := Lib.hid hW0
  have HS := Lib.hid s0
  have HB := Lib.hid B0
  have HK1 := Lib.hid K1
  have HK3 := Lib.hid K3
  have H1 := Lib.hid h1
  have MY := Lib.hid (rMay_any c A1 D1 c1 e1 w.heap.size W0 (h1.below B0) B0.size h8 h9)
  rw [hmay] at MY
  have L0 := bk_load (P := Tryz.prog) 8 K1 rfl
  clear hW0 s0 B0 K1 K3 h1 h8 h9 hmay k ky k0 k5 k3 k4 k6
  go_enter Tryz.func95, Tryz.ntmps95
  go_upto_region 1 with (fail)
  rw [← HW.out]
  go_wp2_with fail
  refine MY.out.mono ?_
  rintro e w1 ⟨rfl, b1⟩
  have B1 := Lib.hid (show Below W0.heap.size W0 w1 from b1)
  have kx := HK1.out.below b1 (by have := HS.out; omega)
  have x0 := kx.cell 0
  have x1 := kx.cell 1
  have x2 := kx.cell 2
  have x3 := kx.cell 3
  have x4 := kx.cell 4
  have x5 := kx.cell 5
  have x6 := kx.cell 6
  have L1 := bk_load (P := Tryz.prog) 8 kx rfl
  clear L0 b1 kx
  go_wp2_with fail
  refine (in_any _ _ _ _).mono ?_
  rintro e w9 ⟨rfl, rfl⟩
  go_wp2_with fail
  refine (ID.out _).mono ?_
  rintro e w2 ⟨rfl, b2⟩
  have B2 := Lib.hid (B1.out.trans (b2.mono B1.out.size))
  have kx := HK1.out.below B2.out (by have := HS.out; omega)
  clear x0 x1 x2 x3 x4 x5 x6 L1
  have x0 := kx.cell 0
  have x1 := kx.cell 1
  have x2 := kx.cell 2
  have x3 := kx.cell 3
  have x4 := kx.cell 4
  have x5 := kx.cell 5
  have x6 := kx.cell 6
  have L1 := bk_load (P := Tryz.prog) 8 kx rfl
  clear b2 kx

  obtain ⟨W9, st, kk, fb, fh, fs⟩ := bk_store (P := Tryz.prog) (ty := 29) (cs := #[.int .i8 0, .int .i64 0, .int .i64 0, .int .i64 0, .int .i64 0, .slice none 0 0, .slice none 0 0, .int .i64 0]) 8 (HK3.out.below B2.out (by have := HS.out; omega)) infoCo rfl rfl (by simp [Value.oneCell'])
  have BB := Lib.hid (fb w.heap.size w (by omega) (HB.out.trans (B2.out.mono HB.out.size)))
  have KK := Lib.hid kk
  clear kk fb fh fs
  go_wp2_with fail
  refine bodyPost_ret (v := .tuple #[.agg #[.int .i8 0, .int .i64 0, .int .i64 0, .int .i64 0, .int .i64 0, .slice none 0 0, .slice none 0 0, .int .i64 0], .int .i64 102]) (rprep_ret Co0 none none 0 0 _ _ (w.heap.size + 1) _ rfl rfl KK.out) rfl ?_
  rw [HE.out, HC.out]
  exact ⟨none, none, 0, 0, rfl, ⟨Reads.none_, Reads.none_, Nat.zero_le _, Nat.zero_le _⟩, BB.out, fun b hb _ _ => ⟨offB_none', offB_none'⟩⟩
set_option maxRecDepth 100000 in
set_option maxHeartbeats 2000000 in
theorem rprep_ogp (c : Co) (A1 D1 : Option Addr) (c1 e1 : Nat) (yes : Bool) (th : Int) (w : World) (h1 : CoR w w.heap.size c A1 D1) (h8 : -128 ≤ c.st) (h9 : c.st ≤ 127) (hmay : mayB c = true) (k : 0 ≤ th ∧ th ≤ 20) (ky : yes = false ∨ th = 0) (kn : yes = false) (k0 : 0 < th) (k5 : ¬ c.ep = 100) (k3 : idlB c = true ∨ c.st = 2) (k4 : idlB c = false) (k6 : c.st = 2) :
    Calls Tryz.prog 95 #[(.agg #[.int .i8 c.st, .int .i64 c.pid, .int .i64 c.ep, .int .i64 c.tm, .int .i64 c.th, .slice A1 c.ps.length c1, .slice D1 c.qs.length e1, .int .i64 c.ag]), .bool yes, .int .i64 th] w (MvP c A1 D1 (prepC c yes th) (prepE c yes th) w) := by

  have HE := Lib.hid (show prepE c yes th = 0 by unfold prepE; rw [if_neg (fun h => h ⟨k.1, k.2, ky⟩), chk_of hmay, begins_of hmay]; rw [if_neg (show ¬ c.st = 0 by rcases k3 with h | h; have := (idl_iff c).1 h; omega; omega)]; have hb : (if (if c.st = 2 then ((2 : Int) == 1) || ((2 : Int) == 2) || ((2 : Int) == 4) else if idlB c = true then ((2 : Int) == 0) || ((2 : Int) == 1) || ((2 : Int) == 2) else ((2 : Int) == 3)) = false then (180 : Int) else 0) = 0 := (by rcases k3 with h | h; by_cases h2 : c.st = 2; simp [h2]; simp [h2, h]; simp [h]); rw [hb]; rw [if_neg (by decide), if_neg (by have := may_ep hmay; omega)])
  have HC := Lib.hid (show prepC c yes th = { c with st := 4, th := th } by unfold prepC; rw [HE.out, if_pos rfl, kn]; rfl)
  have i1 : inB th 0 20 = true := by unfold inB; simp; omega
  have ID := Lib.hid (fun W => idle_any c A1 D1 c1 e1 W)
  rw [k4] at ID
  have z2 : (c.st != 2) = false := by rw [k6]; rfl
  have t2 : decide (0 < th) = true := by simpa using k0
  have t5 : (c.ep == 100) = false := by simpa using k5
  subst kn
  obtain ⟨W0, hW0⟩ : ∃ W0, W0 = (w.alloc (.cells #[.int .i8 c.st, .int .i64 c.pid, .int .i64 c.ep, .int .i64 c.tm, .int .i64 c.th, .slice A1 c.ps.length c1, .slice D1 c.qs.length e1, .int .i64 c.ag] 29)).alloc (.cells #[.int .i8 0, .int .i64 0, .int .i64 0, .int .i64 0, .int .i64 0, .slice none 0 0, .slice none 0 0, .int .i64 0] 29) := ⟨_, rfl⟩
  have s0 : W0.heap.size = w.heap.size + 1 + 1 := by rw [hW0]; simp
  have B0 : Below w.heap.size w W0 := by rw [hW0]; exact bal (bal (Below.refl _ _) _) _
  have K1 : Blk W0 w.heap.size 29 #[.int .i8 c.st, .int .i64 c.pid, .int .i64 c.ep, .int .i64 c.tm, .int .i64 c.th, .slice A1 c.ps.length c1, .slice D1 c.qs.length e1, .int .i64 c.ag] := by rw [hW0]; exact (Blk.new w 29 #[.int .i8 c.st, .int .i64 c.pid, .int .i64 c.ep, .int .i64 c.tm, .int .i64 c.th, .slice A1 c.ps.length c1, .slice D1 c.qs.length e1, .int .i64 c.ag]).alloc _
  have K3 : Blk W0 (w.heap.size + 1) 29 #[.int .i8 0, .int .i64 0, .int .i64 0, .int .i64 0, .int .i64 0, .slice none 0 0, .slice none 0 0, .int .i64 0] := by rw [hW0]; exact bk_new _ 29 #[.int .i8 0, .int .i64 0, .int .i64 0, .int .i64 0, .int .i64 0, .slice none 0 0, .slice none 0 0, .int .i64 0] (by simp)
  have HW := Lib.hid hW0
  have HS := Lib.hid s0
  have HB := Lib.hid B0
  have HK1 := Lib.hid K1
  have HK3 := Lib.hid K3
  have H1 := Lib.hid h1
  have MY := Lib.hid (rMay_any c A1 D1 c1 e1 w.heap.size W0 (h1.below B0) B0.size h8 h9)
  rw [hmay] at MY
  have L0 := bk_load (P := Tryz.prog) 8 K1 rfl
  clear hW0 s0 B0 K1 K3 h1 h8 h9 hmay k ky k0 k5 k3 k4 k6
  go_enter Tryz.func95, Tryz.ntmps95
  go_upto_region 1 with (fail)
  rw [← HW.out]
  go_wp2_with fail
  refine MY.out.mono ?_
  rintro e w1 ⟨rfl, b1⟩
  have B1 := Lib.hid (show Below W0.heap.size W0 w1 from b1)
  have kx := HK1.out.below b1 (by have := HS.out; omega)
  have x0 := kx.cell 0
  have x1 := kx.cell 1
  have x2 := kx.cell 2
  have x3 := kx.cell 3
  have x4 := kx.cell 4
  have x5 := kx.cell 5
  have x6 := kx.cell 6
  have L1 := bk_load (P := Tryz.prog) 8 kx rfl
  clear L0 b1 kx
  go_wp2_with fail
  refine (in_any _ _ _ _).mono ?_
  rintro e w9 ⟨rfl, rfl⟩
  go_wp2_with fail
  refine (ID.out _).mono ?_
  rintro e w2 ⟨rfl, b2⟩
  have B2 := Lib.hid (B1.out.trans (b2.mono B1.out.size))
  have kx := HK1.out.below B2.out (by have := HS.out; omega)
  clear x0 x1 x2 x3 x4 x5 x6 L1
  have x0 := kx.cell 0
  have x1 := kx.cell 1
  have x2 := kx.cell 2
  have x3 := kx.cell 3
  have x4 := kx.cell 4
  have x5 := kx.cell 5
  have x6 := kx.cell 6
  have L1 := bk_load (P := Tryz.prog) 8 kx rfl
  clear b2 kx

  have k0 := HK1.out.below B2.out (by have := HS.out; omega)
  have st0 := store_i8 4 (k0.cell 0) (k0.frozen 0)
  have k1 : Blk (w2.setCell ⟨w.heap.size, 0, none⟩ (.int .i8 4)) w.heap.size 29 #[.int .i8 4, .int .i64 c.pid, .int .i64 c.ep, .int .i64 c.tm, .int .i64 c.th, .slice A1 c.ps.length c1, .slice D1 c.qs.length e1, .int .i64 c.ag] := k0.set_ 0 (.int .i8 4)
  have st1 := store_i64 th (k1.cell 4) (k1.frozen 4)
  have k2 : Blk ((w2.setCell ⟨w.heap.size, 0, none⟩ (.int .i8 4)).setCell ⟨w.heap.size, 4, none⟩ (.int .i64 th)) w.heap.size 29 #[.int .i8 4, .int .i64 c.pid, .int .i64 c.ep, .int .i64 c.tm, .int .i64 th, .slice A1 c.ps.length c1, .slice D1 c.qs.length e1, .int .i64 c.ag] := k1.set_ 4 (.int .i64 th)
  have hbig : ∀ y, y ≠ w.heap.size → ((w2.setCell ⟨w.heap.size, 0, none⟩ (.int .i8 4)).setCell ⟨w.heap.size, 4, none⟩ (.int .i64 th)).heap[y]? = w2.heap[y]? := fun y hy => by simp only [Below.heap_setCell _ ⟨w.heap.size, _, none⟩ _ _ (show y ≠ w.heap.size from hy)]
  have hsz : ((w2.setCell ⟨w.heap.size, 0, none⟩ (.int .i8 4)).setCell ⟨w.heap.size, 4, none⟩ (.int .i64 th)).heap.size = w2.heap.size := by simp [World.setCell]
  have KZ := Lib.hid k2
  have HH := Lib.hid (And.intro hbig hsz)
  have HOS := Lib.hid (show ((w2.setCell ⟨w.heap.size, 0, none⟩ (.int .i8 4)).setCell ⟨w.heap.size, 4, none⟩ (.int .i64 th)).os = w2.os ∧ ((w2.setCell ⟨w.heap.size, 0, none⟩ (.int .i8 4)).setCell ⟨w.heap.size, 4, none⟩ (.int .i64 th)).tape = w2.tape ∧ ((w2.setCell ⟨w.heap.size, 0, none⟩ (.int .i8 4)).setCell ⟨w.heap.size, 4, none⟩ (.int .i64 th)).output = w2.output from ⟨rfl, rfl, rfl⟩)
  clear hbig hsz k0 k1 k2
  go_upto_region 11 with (fail)
  clear x0 x1 x2 x3 x4 x5 x6 L1
  generalize ((w2.setCell ⟨w.heap.size, 0, none⟩ (.int .i8 4)).setCell ⟨w.heap.size, 4, none⟩ (.int .i64 th)) = W8 at *
  have L8 := bk_load (P := Tryz.prog) 8 KZ.out rfl
  have b8 : Below w.heap.size w W8 := by
    have hb := HB.out.trans (B2.out.mono HB.out.size)
    exact ⟨HOS.out.1.trans hb.os, HOS.out.2.1.trans hb.tape, HOS.out.2.2.trans hb.output, by rw [HH.out.2]; exact hb.size, fun y hy => by rw [HH.out.1 y (by omega)]; exact hb.block y hy⟩
  have k38 : Blk W8 (w.heap.size + 1) 29 #[.int .i8 0, .int .i64 0, .int .i64 0, .int .i64 0, .int .i64 0, .slice none 0 0, .slice none 0 0, .int .i64 0] := (HH.out.1 _ (by omega)).trans (HK3.out.below B2.out (by have := HS.out; omega))
  obtain ⟨W9, st, kk, fb, fh, fs⟩ := bk_store (P := Tryz.prog) (ty := 29) (cs := #[.int .i8 4, .int .i64 c.pid, .int .i64 c.ep, .int .i64 c.tm, .int .i64 th, .slice A1 c.ps.length c1, .slice D1 c.qs.length e1, .int .i64 c.ag]) 8 k38 infoCo rfl rfl (by simp [Value.oneCell'])
  have BB := Lib.hid (fb w.heap.size w (by omega) b8)
  have KK := Lib.hid kk
  clear kk fb fh fs b8 k38
  go_wp2_with fail
  refine bodyPost_ret (v := .tuple #[.agg #[.int .i8 4, .int .i64 c.pid, .int .i64 c.ep, .int .i64 c.tm, .int .i64 th, .slice A1 c.ps.length c1, .slice D1 c.qs.length e1, .int .i64 c.ag], .int .i64 0]) (rprep_ret { c with st := 4, th := th } A1 D1 c1 e1 0 _ (w.heap.size + 1) _ rfl rfl KK.out) rfl ?_
  rw [HE.out, HC.out]
  have rr := H1.out.up BB.out
  exact ⟨A1, D1, c1, e1, rfl, ⟨rr.1, rr.2.1, rr.2.2⟩, BB.out, fun b hb o1 o2 => ⟨o1, o2⟩⟩
set_option maxRecDepth 100000 in
set_option maxHeartbeats 2000000 in
theorem rprep_ogz (c : Co) (A1 D1 : Option Addr) (c1 e1 : Nat) (yes : Bool) (th : Int) (w : World) (h1 : CoR w w.heap.size c A1 D1) (h8 : -128 ≤ c.st) (h9 : c.st ≤ 127) (hmay : mayB c = true) (k : 0 ≤ th ∧ th ≤ 20) (ky : yes = false ∨ th = 0) (kn : yes = false) (k0 : th = 0) (k3 : idlB c = true ∨ c.st = 2) (k4 : idlB c = false) (k6 : c.st = 2) :
    Calls Tryz.prog 95 #[(.agg #[.int .i8 c.st, .int .i64 c.pid, .int .i64 c.ep, .int .i64 c.tm, .int .i64 c.th, .slice A1 c.ps.length c1, .slice D1 c.qs.length e1, .int .i64 c.ag]), .bool yes, .int .i64 th] w (MvP c A1 D1 (prepC c yes th) (prepE c yes th) w) := by

  have HE := Lib.hid (show prepE c yes th = 0 by unfold prepE; rw [if_neg (fun h => h ⟨k.1, k.2, ky⟩), chk_of hmay, begins_of hmay]; rw [if_neg (show ¬ c.st = 0 by rcases k3 with h | h; have := (idl_iff c).1 h; omega; omega)]; have hb : (if (if c.st = 2 then ((2 : Int) == 1) || ((2 : Int) == 2) || ((2 : Int) == 4) else if idlB c = true then ((2 : Int) == 0) || ((2 : Int) == 1) || ((2 : Int) == 2) else ((2 : Int) == 3)) = false then (180 : Int) else 0) = 0 := (by rcases k3 with h | h; by_cases h2 : c.st = 2; simp [h2]; simp [h2, h]; simp [h]); rw [hb]; rw [if_neg (by decide), if_neg (by have := may_ep hmay; omega)])
  have HC := Lib.hid (show prepC c yes th = { c with st := 4, th := th } by unfold prepC; rw [HE.out, if_pos rfl, kn]; rfl)
  have i1 : inB th 0 20 = true := by unfold inB; simp; omega
  have ID := Lib.hid (fun W => idle_any c A1 D1 c1 e1 W)
  rw [k4] at ID
  have z2 : (c.st != 2) = false := by rw [k6]; rfl
  have t2 : decide (0 < th) = false := by simp; omega
  subst kn
  obtain ⟨W0, hW0⟩ : ∃ W0, W0 = (w.alloc (.cells #[.int .i8 c.st, .int .i64 c.pid, .int .i64 c.ep, .int .i64 c.tm, .int .i64 c.th, .slice A1 c.ps.length c1, .slice D1 c.qs.length e1, .int .i64 c.ag] 29)).alloc (.cells #[.int .i8 0, .int .i64 0, .int .i64 0, .int .i64 0, .int .i64 0, .slice none 0 0, .slice none 0 0, .int .i64 0] 29) := ⟨_, rfl⟩
  have s0 : W0.heap.size = w.heap.size + 1 + 1 := by rw [hW0]; simp
  have B0 : Below w.heap.size w W0 := by rw [hW0]; exact bal (bal (Below.refl _ _) _) _
  have K1 : Blk W0 w.heap.size 29 #[.int .i8 c.st, .int .i64 c.pid, .int .i64 c.ep, .int .i64 c.tm, .int .i64 c.th, .slice A1 c.ps.length c1, .slice D1 c.qs.length e1, .int .i64 c.ag] := by rw [hW0]; exact (Blk.new w 29 #[.int .i8 c.st, .int .i64 c.pid, .int .i64 c.ep, .int .i64 c.tm, .int .i64 c.th, .slice A1 c.ps.length c1, .slice D1 c.qs.length e1, .int .i64 c.ag]).alloc _
  have K3 : Blk W0 (w.heap.size + 1) 29 #[.int .i8 0, .int .i64 0, .int .i64 0, .int .i64 0, .int .i64 0, .slice none 0 0, .slice none 0 0, .int .i64 0] := by rw [hW0]; exact bk_new _ 29 #[.int .i8 0, .int .i64 0, .int .i64 0, .int .i64 0, .int .i64 0, .slice none 0 0, .slice none 0 0, .int .i64 0] (by simp)
  have HW := Lib.hid hW0
  have HS := Lib.hid s0
  have HB := Lib.hid B0
  have HK1 := Lib.hid K1
  have HK3 := Lib.hid K3
  have H1 := Lib.hid h1
  have MY := Lib.hid (rMay_any c A1 D1 c1 e1 w.heap.size W0 (h1.below B0) B0.size h8 h9)
  rw [hmay] at MY
  have L0 := bk_load (P := Tryz.prog) 8 K1 rfl
  clear hW0 s0 B0 K1 K3 h1 h8 h9 hmay k ky k0 k3 k4 k6
  go_enter Tryz.func95, Tryz.ntmps95
  go_upto_region 1 with (fail)
  rw [← HW.out]
  go_wp2_with fail
  refine MY.out.mono ?_
  rintro e w1 ⟨rfl, b1⟩
  have B1 := Lib.hid (show Below W0.heap.size W0 w1 from b1)
  have kx := HK1.out.below b1 (by have := HS.out; omega)
  have x0 := kx.cell 0
  have x1 := kx.cell 1
  have x2 := kx.cell 2
  have x3 := kx.cell 3
  have x4 := kx.cell 4
  have x5 := kx.cell 5
  have x6 := kx.cell 6
  have L1 := bk_load (P := Tryz.prog) 8 kx rfl
  clear L0 b1 kx
  go_wp2_with fail
  refine (in_any _ _ _ _).mono ?_
  rintro e w9 ⟨rfl, rfl⟩
  go_wp2_with fail
  refine (ID.out _).mono ?_
  rintro e w2 ⟨rfl, b2⟩
  have B2 := Lib.hid (B1.out.trans (b2.mono B1.out.size))
  have kx := HK1.out.below B2.out (by have := HS.out; omega)
  clear x0 x1 x2 x3 x4 x5 x6 L1
  have x0 := kx.cell 0
  have x1 := kx.cell 1
  have x2 := kx.cell 2
  have x3 := kx.cell 3
  have x4 := kx.cell 4
  have x5 := kx.cell 5
  have x6 := kx.cell 6
  have L1 := bk_load (P := Tryz.prog) 8 kx rfl
  clear b2 kx

  have k0 := HK1.out.below B2.out (by have := HS.out; omega)
  have st0 := store_i8 4 (k0.cell 0) (k0.frozen 0)
  have k1 : Blk (w2.setCell ⟨w.heap.size, 0, none⟩ (.int .i8 4)) w.heap.size 29 #[.int .i8 4, .int .i64 c.pid, .int .i64 c.ep, .int .i64 c.tm, .int .i64 c.th, .slice A1 c.ps.length c1, .slice D1 c.qs.length e1, .int .i64 c.ag] := k0.set_ 0 (.int .i8 4)
  have st1 := store_i64 th (k1.cell 4) (k1.frozen 4)
  have k2 : Blk ((w2.setCell ⟨w.heap.size, 0, none⟩ (.int .i8 4)).setCell ⟨w.heap.size, 4, none⟩ (.int .i64 th)) w.heap.size 29 #[.int .i8 4, .int .i64 c.pid, .int .i64 c.ep, .int .i64 c.tm, .int .i64 th, .slice A1 c.ps.length c1, .slice D1 c.qs.length e1, .int .i64 c.ag] := k1.set_ 4 (.int .i64 th)
  have hbig : ∀ y, y ≠ w.heap.size → ((w2.setCell ⟨w.heap.size, 0, none⟩ (.int .i8 4)).setCell ⟨w.heap.size, 4, none⟩ (.int .i64 th)).heap[y]? = w2.heap[y]? := fun y hy => by simp only [Below.heap_setCell _ ⟨w.heap.size, _, none⟩ _ _ (show y ≠ w.heap.size from hy)]
  have hsz : ((w2.setCell ⟨w.heap.size, 0, none⟩ (.int .i8 4)).setCell ⟨w.heap.size, 4, none⟩ (.int .i64 th)).heap.size = w2.heap.size := by simp [World.setCell]
  have KZ := Lib.hid k2
  have HH := Lib.hid (And.intro hbig hsz)
  have HOS := Lib.hid (show ((w2.setCell ⟨w.heap.size, 0, none⟩ (.int .i8 4)).setCell ⟨w.heap.size, 4, none⟩ (.int .i64 th)).os = w2.os ∧ ((w2.setCell ⟨w.heap.size, 0, none⟩ (.int .i8 4)).setCell ⟨w.heap.size, 4, none⟩ (.int .i64 th)).tape = w2.tape ∧ ((w2.setCell ⟨w.heap.size, 0, none⟩ (.int .i8 4)).setCell ⟨w.heap.size, 4, none⟩ (.int .i64 th)).output = w2.output from ⟨rfl, rfl, rfl⟩)
  clear hbig hsz k0 k1 k2
  go_upto_region 11 with (fail)
  clear x0 x1 x2 x3 x4 x5 x6 L1
  generalize ((w2.setCell ⟨w.heap.size, 0, none⟩ (.int .i8 4)).setCell ⟨w.heap.size, 4, none⟩ (.int .i64 th)) = W8 at *
  have L8 := bk_load (P := Tryz.prog) 8 KZ.out rfl
  have b8 : Below w.heap.size w W8 := by
    have hb := HB.out.trans (B2.out.mono HB.out.size)
    exact ⟨HOS.out.1.trans hb.os, HOS.out.2.1.trans hb.tape, HOS.out.2.2.trans hb.output, by rw [HH.out.2]; exact hb.size, fun y hy => by rw [HH.out.1 y (by omega)]; exact hb.block y hy⟩
  have k38 : Blk W8 (w.heap.size + 1) 29 #[.int .i8 0, .int .i64 0, .int .i64 0, .int .i64 0, .int .i64 0, .slice none 0 0, .slice none 0 0, .int .i64 0] := (HH.out.1 _ (by omega)).trans (HK3.out.below B2.out (by have := HS.out; omega))
  obtain ⟨W9, st, kk, fb, fh, fs⟩ := bk_store (P := Tryz.prog) (ty := 29) (cs := #[.int .i8 4, .int .i64 c.pid, .int .i64 c.ep, .int .i64 c.tm, .int .i64 th, .slice A1 c.ps.length c1, .slice D1 c.qs.length e1, .int .i64 c.ag]) 8 k38 infoCo rfl rfl (by simp [Value.oneCell'])
  have BB := Lib.hid (fb w.heap.size w (by omega) b8)
  have KK := Lib.hid kk
  clear kk fb fh fs b8 k38
  go_wp2_with fail
  refine bodyPost_ret (v := .tuple #[.agg #[.int .i8 4, .int .i64 c.pid, .int .i64 c.ep, .int .i64 c.tm, .int .i64 th, .slice A1 c.ps.length c1, .slice D1 c.qs.length e1, .int .i64 c.ag], .int .i64 0]) (rprep_ret { c with st := 4, th := th } A1 D1 c1 e1 0 _ (w.heap.size + 1) _ rfl rfl KK.out) rfl ?_
  rw [HE.out, HC.out]
  have rr := H1.out.up BB.out
  exact ⟨A1, D1, c1, e1, rfl, ⟨rr.1, rr.2.1, rr.2.2⟩, BB.out, fun b hb o1 o2 => ⟨o1, o2⟩⟩
set_option maxRecDepth 100000 in
set_option maxHeartbeats 2000000 in
theorem rprep_ogy (c : Co) (A1 D1 : Option Addr) (c1 e1 : Nat) (yes : Bool) (th : Int) (w : World) (h1 : CoR w w.heap.size c A1 D1) (h8 : -128 ≤ c.st) (h9 : c.st ≤ 127) (hmay : mayB c = true) (k : 0 ≤ th ∧ th ≤ 20) (ky : yes = false ∨ th = 0) (kn : yes = true) (k0 : th = 0) (k3 : idlB c = true ∨ c.st = 2) (k4 : idlB c = false) (k6 : c.st = 2) :
    Calls Tryz.prog 95 #[(.agg #[.int .i8 c.st, .int .i64 c.pid, .int .i64 c.ep, .int .i64 c.tm, .int .i64 c.th, .slice A1 c.ps.length c1, .slice D1 c.qs.length e1, .int .i64 c.ag]), .bool yes, .int .i64 th] w (MvP c A1 D1 (prepC c yes th) (prepE c yes th) w) := by

  have HE := Lib.hid (show prepE c yes th = 0 by unfold prepE; rw [if_neg (fun h => h ⟨k.1, k.2, ky⟩), chk_of hmay, begins_of hmay]; rw [if_neg (show ¬ c.st = 0 by rcases k3 with h | h; have := (idl_iff c).1 h; omega; omega)]; have hb : (if (if c.st = 2 then ((2 : Int) == 1) || ((2 : Int) == 2) || ((2 : Int) == 4) else if idlB c = true then ((2 : Int) == 0) || ((2 : Int) == 1) || ((2 : Int) == 2) else ((2 : Int) == 3)) = false then (180 : Int) else 0) = 0 := (by rcases k3 with h | h; by_cases h2 : c.st = 2; simp [h2]; simp [h2, h]; simp [h]); rw [hb]; rw [if_neg (by decide), if_neg (by have := may_ep hmay; omega)])
  have HC := Lib.hid (show prepC c yes th = { c with st := 3, th := th } by unfold prepC; rw [HE.out, if_pos rfl, kn]; rfl)
  have i1 : inB th 0 20 = true := by unfold inB; simp; omega
  have ID := Lib.hid (fun W => idle_any c A1 D1 c1 e1 W)
  rw [k4] at ID
  have z2 : (c.st != 2) = false := by rw [k6]; rfl
  have t2 : decide (0 < th) = false := by simp; omega
  subst kn
  obtain ⟨W0, hW0⟩ : ∃ W0, W0 = (w.alloc (.cells #[.int .i8 c.st, .int .i64 c.pid, .int .i64 c.ep, .int .i64 c.tm, .int .i64 c.th, .slice A1 c.ps.length c1, .slice D1 c.qs.length e1, .int .i64 c.ag] 29)).alloc (.cells #[.int .i8 0, .int .i64 0, .int .i64 0, .int .i64 0, .int .i64 0, .slice none 0 0, .slice none 0 0, .int .i64 0] 29) := ⟨_, rfl⟩
  have s0 : W0.heap.size = w.heap.size + 1 + 1 := by rw [hW0]; simp
  have B0 : Below w.heap.size w W0 := by rw [hW0]; exact bal (bal (Below.refl _ _) _) _
  have K1 : Blk W0 w.heap.size 29 #[.int .i8 c.st, .int .i64 c.pid, .int .i64 c.ep, .int .i64 c.tm, .int .i64 c.th, .slice A1 c.ps.length c1, .slice D1 c.qs.length e1, .int .i64 c.ag] := by rw [hW0]; exact (Blk.new w 29 #[.int .i8 c.st, .int .i64 c.pid, .int .i64 c.ep, .int .i64 c.tm, .int .i64 c.th, .slice A1 c.ps.length c1, .slice D1 c.qs.length e1, .int .i64 c.ag]).alloc _
  have K3 : Blk W0 (w.heap.size + 1) 29 #[.int .i8 0, .int .i64 0, .int .i64 0, .int .i64 0, .int .i64 0, .slice none 0 0, .slice none 0 0, .int .i64 0] := by rw [hW0]; exact bk_new _ 29 #[.int .i8 0, .int .i64 0, .int .i64 0, .int .i64 0, .int .i64 0, .slice none 0 0, .slice none 0 0, .int .i64 0] (by simp)
  have HW := Lib.hid hW0
  have HS := Lib.hid s0
  have HB := Lib.hid B0
  have HK1 := Lib.hid K1
  have HK3 := Lib.hid K3
  have H1 := Lib.hid h1
  have MY := Lib.hid (rMay_any c A1 D1 c1 e1 w.heap.size W0 (h1.below B0) B0.size h8 h9)
  rw [hmay] at MY
  have L0 := bk_load (P := Tryz.prog) 8 K1 rfl
  clear hW0 s0 B0 K1 K3 h1 h8 h9 hmay k ky k0 k3 k4 k6
  go_enter Tryz.func95, Tryz.ntmps95
  go_upto_region 1 with (fail)
  rw [← HW.out]
  go_wp2_with fail
  refine MY.out.mono ?_
  rintro e w1 ⟨rfl, b1⟩
  have B1 := Lib.hid (show Below W0.heap.size W0 w1 from b1)
  have kx := HK1.out.below b1 (by have := HS.out; omega)
  have x0 := kx.cell 0
  have x1 := kx.cell 1
  have x2 := kx.cell 2
  have x3 := kx.cell 3
  have x4 := kx.cell 4
  have x5 := kx.cell 5
  have x6 := kx.cell 6
  have L1 := bk_load (P := Tryz.prog) 8 kx rfl
  clear L0 b1 kx
  go_wp2_with fail
  refine (in_any _ _ _ _).mono ?_
  rintro e w9 ⟨rfl, rfl⟩
  go_wp2_with fail
  refine (ID.out _).mono ?_
  rintro e w2 ⟨rfl, b2⟩
  have B2 := Lib.hid (B1.out.trans (b2.mono B1.out.size))
  have kx := HK1.out.below B2.out (by have := HS.out; omega)
  clear x0 x1 x2 x3 x4 x5 x6 L1
  have x0 := kx.cell 0
  have x1 := kx.cell 1
  have x2 := kx.cell 2
  have x3 := kx.cell 3
  have x4 := kx.cell 4
  have x5 := kx.cell 5
  have x6 := kx.cell 6
  have L1 := bk_load (P := Tryz.prog) 8 kx rfl
  clear b2 kx

  have k0 := HK1.out.below B2.out (by have := HS.out; omega)
  have st0 := store_i8 4 (k0.cell 0) (k0.frozen 0)
  have k1 : Blk (w2.setCell ⟨w.heap.size, 0, none⟩ (.int .i8 4)) w.heap.size 29 #[.int .i8 4, .int .i64 c.pid, .int .i64 c.ep, .int .i64 c.tm, .int .i64 c.th, .slice A1 c.ps.length c1, .slice D1 c.qs.length e1, .int .i64 c.ag] := k0.set_ 0 (.int .i8 4)
  have st1 := store_i8 3 (k1.cell 0) (k1.frozen 0)
  have k2 : Blk ((w2.setCell ⟨w.heap.size, 0, none⟩ (.int .i8 4)).setCell ⟨w.heap.size, 0, none⟩ (.int .i8 3)) w.heap.size 29 #[.int .i8 3, .int .i64 c.pid, .int .i64 c.ep, .int .i64 c.tm, .int .i64 c.th, .slice A1 c.ps.length c1, .slice D1 c.qs.length e1, .int .i64 c.ag] := k1.set_ 0 (.int .i8 3)
  have st2 := store_i64 th (k2.cell 4) (k2.frozen 4)
  have k3 : Blk (((w2.setCell ⟨w.heap.size, 0, none⟩ (.int .i8 4)).setCell ⟨w.heap.size, 0, none⟩ (.int .i8 3)).setCell ⟨w.heap.size, 4, none⟩ (.int .i64 th)) w.heap.size 29 #[.int .i8 3, .int .i64 c.pid, .int .i64 c.ep, .int .i64 c.tm, .int .i64 th, .slice A1 c.ps.length c1, .slice D1 c.qs.length e1, .int .i64 c.ag] := k2.set_ 4 (.int .i64 th)
  have hbig : ∀ y, y ≠ w.heap.size → (((w2.setCell ⟨w.heap.size, 0, none⟩ (.int .i8 4)).setCell ⟨w.heap.size, 0, none⟩ (.int .i8 3)).setCell ⟨w.heap.size, 4, none⟩ (.int .i64 th)).heap[y]? = w2.heap[y]? := fun y hy => by simp only [Below.heap_setCell _ ⟨w.heap.size, _, none⟩ _ _ (show y ≠ w.heap.size from hy)]
  have hsz : (((w2.setCell ⟨w.heap.size, 0, none⟩ (.int .i8 4)).setCell ⟨w.heap.size, 0, none⟩ (.int .i8 3)).setCell ⟨w.heap.size, 4, none⟩ (.int .i64 th)).heap.size = w2.heap.size := by simp [World.setCell]
  have KZ := Lib.hid k3
  have HH := Lib.hid (And.intro hbig hsz)
  have HOS := Lib.hid (show (((w2.setCell ⟨w.heap.size, 0, none⟩ (.int .i8 4)).setCell ⟨w.heap.size, 0, none⟩ (.int .i8 3)).setCell ⟨w.heap.size, 4, none⟩ (.int .i64 th)).os = w2.os ∧ (((w2.setCell ⟨w.heap.size, 0, none⟩ (.int .i8 4)).setCell ⟨w.heap.size, 0, none⟩ (.int .i8 3)).setCell ⟨w.heap.size, 4, none⟩ (.int .i64 th)).tape = w2.tape ∧ (((w2.setCell ⟨w.heap.size, 0, none⟩ (.int .i8 4)).setCell ⟨w.heap.size, 0, none⟩ (.int .i8 3)).setCell ⟨w.heap.size, 4, none⟩ (.int .i64 th)).output = w2.output from ⟨rfl, rfl, rfl⟩)
  clear hbig hsz k0 k1 k2 k3
  go_upto_region 11 with (fail)
  clear x0 x1 x2 x3 x4 x5 x6 L1
  generalize (((w2.setCell ⟨w.heap.size, 0, none⟩ (.int .i8 4)).setCell ⟨w.heap.size, 0, none⟩ (.int .i8 3)).setCell ⟨w.heap.size, 4, none⟩ (.int .i64 th)) = W8 at *
  have L8 := bk_load (P := Tryz.prog) 8 KZ.out rfl
  have b8 : Below w.heap.size w W8 := by
    have hb := HB.out.trans (B2.out.mono HB.out.size)
    exact ⟨HOS.out.1.trans hb.os, HOS.out.2.1.trans hb.tape, HOS.out.2.2.trans hb.output, by rw [HH.out.2]; exact hb.size, fun y hy => by rw [HH.out.1 y (by omega)]; exact hb.block y hy⟩
  have k38 : Blk W8 (w.heap.size + 1) 29 #[.int .i8 0, .int .i64 0, .int .i64 0, .int .i64 0, .int .i64 0, .slice none 0 0, .slice none 0 0, .int .i64 0] := (HH.out.1 _ (by omega)).trans (HK3.out.below B2.out (by have := HS.out; omega))
  obtain ⟨W9, st, kk, fb, fh, fs⟩ := bk_store (P := Tryz.prog) (ty := 29) (cs := #[.int .i8 3, .int .i64 c.pid, .int .i64 c.ep, .int .i64 c.tm, .int .i64 th, .slice A1 c.ps.length c1, .slice D1 c.qs.length e1, .int .i64 c.ag]) 8 k38 infoCo rfl rfl (by simp [Value.oneCell'])
  have BB := Lib.hid (fb w.heap.size w (by omega) b8)
  have KK := Lib.hid kk
  clear kk fb fh fs b8 k38
  go_wp2_with fail
  refine bodyPost_ret (v := .tuple #[.agg #[.int .i8 3, .int .i64 c.pid, .int .i64 c.ep, .int .i64 c.tm, .int .i64 th, .slice A1 c.ps.length c1, .slice D1 c.qs.length e1, .int .i64 c.ag], .int .i64 0]) (rprep_ret { c with st := 3, th := th } A1 D1 c1 e1 0 _ (w.heap.size + 1) _ rfl rfl KK.out) rfl ?_
  rw [HE.out, HC.out]
  have rr := H1.out.up BB.out
  exact ⟨A1, D1, c1, e1, rfl, ⟨rr.1, rr.2.1, rr.2.2⟩, BB.out, fun b hb o1 o2 => ⟨o1, o2⟩⟩
theorem rPrep_any (c : Co) (A1 D1 : Option Addr) (c1 e1 : Nat) (yes : Bool) (th : Int) (w : World) (h1 : CoR w w.heap.size c A1 D1) (h8 : -128 ≤ c.st) (h9 : c.st ≤ 127) :
    Calls Tryz.prog 95 #[(.agg #[.int .i8 c.st, .int .i64 c.pid, .int .i64 c.ep, .int .i64 c.tm, .int .i64 c.th, .slice A1 c.ps.length c1, .slice D1 c.qs.length e1, .int .i64 c.ag]), .bool yes, .int .i64 th] w (MvP c A1 D1 (prepC c yes th) (prepE c yes th) w) := by
  cases hm : mayB c
  · exact rprep_a c A1 D1 c1 e1 yes th w h1 h8 h9 hm
  rcases Decidable.em (0 ≤ th ∧ th ≤ 20) with k | k
  case inr => exact rprep_b c A1 D1 c1 e1 yes th w h1 h8 h9 hm k
  rcases Decidable.em (yes = false ∨ th = 0) with ky | ky
  case inr => exact rprep_c c A1 D1 c1 e1 yes th w h1 h8 h9 hm k (by cases yes <;> simp_all) (by omega)
  cases hi : idlB c
  · by_cases h2 : c.st = 2
    · cases hy : yes
      · by_cases h0 : 0 < th
        · by_cases h5 : c.ep = 100
          · rw [← hy]; exact rprep_hg c A1 D1 c1 e1 yes th w h1 h8 h9 hm k ky hy h0 h5 (.inr h2) hi h2
          · rw [← hy]; exact rprep_ogp c A1 D1 c1 e1 yes th w h1 h8 h9 hm k ky hy h0 h5 (.inr h2) hi h2
        · rw [← hy]; exact rprep_ogz c A1 D1 c1 e1 yes th w h1 h8 h9 hm k ky hy (by omega) (.inr h2) hi h2
      · rw [← hy]; exact rprep_ogy c A1 D1 c1 e1 yes th w h1 h8 h9 hm k ky hy (by rcases ky with h | h; rw [h] at hy; cases hy; exact h) (.inr h2) hi h2
    · cases hy : yes
      · rw [← hy]; exact rprep_en c A1 D1 c1 e1 yes th w h1 h8 h9 hm k ky hy hi h2
      · rw [← hy]; exact rprep_ey c A1 D1 c1 e1 yes th w h1 h8 h9 hm k ky hy (by rcases ky with h | h; rw [h] at hy; cases hy; exact h) hi h2
  · cases hy : yes
    · by_cases h0 : 0 < th
      · by_cases h5 : c.ep = 100
        · rw [← hy]; exact rprep_hi c A1 D1 c1 e1 yes th w h1 h8 h9 hm k ky hy h0 h5 (.inl hi) hi
        · rw [← hy]; exact rprep_oip c A1 D1 c1 e1 yes th w h1 h8 h9 hm k ky hy h0 h5 (.inl hi) hi
      · rw [← hy]; exact rprep_oiz c A1 D1 c1 e1 yes th w h1 h8 h9 hm k ky hy (by omega) (.inl hi) hi
    · rw [← hy]; exact rprep_oiy c A1 D1 c1 e1 yes th w h1 h8 h9 hm k ky hy (by rcases ky with h | h; rw [h] at hy; cases hy; exact h) (.inl hi) hi
end
end Go.Proofs.YtbpkckahonmpkaaGreatDoor
