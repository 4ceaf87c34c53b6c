/-
  Layer 19: metalog.Read.
  Layer 19: metalog's reader: all fields of a kind.
  Layer 19: metalog.read, Read.
-/
import Derived.Test.YtbpkckahonmpkaaGreatDoorMlFramesProofP11
import Derived.Deep.RegionHeld3
set_option linter.unusedVariables false
set_option linter.unusedSimpArgs false
namespace Go.Proofs.YtbpkckahonmpkaaGreatDoor
open Go.RowKit
theorem rmnone (g b : Nat) (cs : Array Value) (s : ByteArray) (i : Nat) (bad : Bool) (w : World) (h : ROk w g s i bad) (hE : Blk w b 42 cs) :
    Calls Tryz.prog 98 #[.agg #[.iface 128 (.agg #[.pointer (some ⟨g, 0, none⟩)]), .pointer (some ⟨b, 0, none⟩)]] w (RmE g b 42 cs s i bad w) := by
  have R := Lib.hid (show RmE g b 42 cs s i bad w (.returned (.tuple #[])) (w.alloc (.cells #[.iface 128 (.agg #[.pointer (some ⟨g, 0, none⟩)]), .pointer (some ⟨b, 0, none⟩)] 114)) from ⟨rfl, rok_alloc h _, hE.alloc _, (Only.refl _ _).alloc _⟩)
  clear h hE
  go_enter Tryz.func98, Tryz.ntmps98
  go_wp2_with fail
  go_end0
  exact R.out
theorem info8R : (Tryz.prog.info? 140).map (·.size) = some 8 := by kernel_rfl
attribute [-go_sem] loadCells storeVar
set_option maxRecDepth 100000 in
set_option maxHeartbeats 4000000 in
theorem rmall_0 (g b : Nat) (s : ByteArray) (i j : Nat) (bad b' : Bool) (y : Mb) (w : World) (h : ROk w g s i bad) (hE : Blk w b 42 (mtX (Mt0 0) none none 0 0)) (hbg : b ≠ g) (hbe : b ≠ 0) (hz : rM 6 0 (lb s) i bad = (y, j, b')) :
    Calls Tryz.prog 68 #[.agg #[.iface 128 (.agg #[.pointer (some ⟨g, 0, none⟩)]), .pointer (some ⟨b, 0, none⟩)]] w (RsP g b (mtOf 0 y) s j b' w) := by
  have e : (y, j, b') = (Mb0, i, bad) := by
    rw [← hz, show rM 6 0 = rM0 from rfl]
    simp only [rM0, rdMap]
  injection e with e1 e2
  injection e2 with e2 e3
  have e2 := e2.symm
  have e3 := e3.symm
  subst e1; subst e2; subst e3
  obtain ⟨W0, hW0⟩ : ∃ W0, W0 = w.alloc (.cells #[.iface 128 (.agg #[.pointer (some ⟨g, 0, none⟩)]), .pointer (some ⟨b, 0, none⟩)] 114) := ⟨_, rfl⟩
  have kf0 : Blk W0 w.heap.size 114 #[.iface 128 (.agg #[.pointer (some ⟨g, 0, none⟩)]), .pointer (some ⟨b, 0, none⟩)] := by rw [hW0]; exact Blk.new w 114 #[.iface 128 (.agg #[.pointer (some ⟨g, 0, none⟩)]), .pointer (some ⟨b, 0, none⟩)]
  have hs0 : ROk W0 g s i bad := by rw [hW0]; exact rok_alloc h _
  have ke0 : Blk W0 b 42 (mtX (Mt0 0) none none 0 0) := by rw [hW0]; exact hE.alloc _
  have ho0 : Only (fun x => x = g ∨ x = b) w W0 := by rw [hW0]; exact (Only.refl _ _).alloc _
  obtain ⟨W1, st1, k1, bl1, s1⟩ := bk_fresh (P := Tryz.prog) W0 140 #[.nilFunc, .nilFunc, .nilFunc, .nilFunc, .nilFunc, .nilFunc, .nilFunc, .nilFunc] #[.func (.func 98) #[] #[], .func (.func 99) #[] #[], .func (.func 100) #[] #[], .func (.func 101) #[] #[], .func (.func 102) #[] #[], .func (.func 103) #[] #[], .func (.func 104) #[] #[], .func (.func 105) #[] #[]] 8 info8R rfl rfl (by simp [Value.oneCell'])
  have HW := Lib.hid hW0
  have HS := Lib.hid (RdOk.drew (rok_below hs0 bl1))
  have KE := Lib.hid ((ke0.below bl1 ke0.lt).drew)
  have HO := Lib.hid ((ho0.trans (Only.of_below _ bl1)).drew)
  have kf := kf0.below bl1 kf0.lt
  have KF := Lib.hid kf.drew
  have HBG := Lib.hid (And.intro hbg hbe)
  have x0 : W1.cell? ⟨b, 0, none⟩ = some (.int .i8 0) := mt_cell (ke0.below bl1 ke0.lt) (j := 0) rfl
  have x1 : W1.cell? ⟨w.heap.size, 1, none⟩ = some (.pointer (some ⟨b, 0, none⟩)) := kf.cell 1
  have x2 : W1.drew.cell? ⟨W0.heap.size, 0, none⟩ = some (.func (.func 98) #[] #[]) := k1.drew.cell 0
  have x3 := bk_load (P := Tryz.prog) 2 KF.out rfl
  have NM := Lib.hid (rmnone g b (mtX (Mt0 0) none none 0 0) s i bad W1.drew HS.out KE.out)
  clear hW0 kf0 hs0 ke0 ho0 k1 bl1 s1 kf h hE hbg hbe hz 
  go_enter Tryz.func68, Tryz.ntmps68
  go_upto_region 1 with (fail)
  rw [← HW.out]
  go_wp2_with fail
  refine wp_region_qtail 4 (by kernel_rfl) (by kernel_rfl) ?_
  simp only [List.take_succ_cons, List.take_zero, List.drop_succ_cons, List.drop_zero]
  repeat (go_big_quiet_step (fail))
  refine wpQuiet_nil ?_
  go_wp2_with fail
  refine NM.out.mono ?_
  rintro e w2 ⟨rfl, hs, hk, ho⟩
  have HR := Lib.hid (show RsP g b (mtOf 0 Mb0) s i bad w (.returned (.tuple #[])) w2 from ⟨rfl, hs, ⟨none, 0, hk, Reads.none_, fun _ h => absurd h (Nat.lt_irrefl 0)⟩, HO.out.trans ho⟩)
  clear hs hk ho
  go_wp2_with fail
  go_end0
  exact HR.out
set_option maxRecDepth 100000 in
set_option maxHeartbeats 4000000 in
theorem rmall_1 (g b : Nat) (s : ByteArray) (i j : Nat) (bad b' : Bool) (y : Mb) (w : World) (h : ROk w g s i bad) (hE : Blk w b 42 (mtX (Mt0 1) none none 0 0)) (hbg : b ≠ g) (hbe : b ≠ 0) (hz : rM 6 1 (lb s) i bad = (y, j, b')) :
    Calls Tryz.prog 68 #[.agg #[.iface 128 (.agg #[.pointer (some ⟨g, 0, none⟩)]), .pointer (some ⟨b, 0, none⟩)]] w (RsP g b (mtOf 1 y) s j b' w) := by
  obtain ⟨v1, j1, b1, hz1⟩ : ∃ v j b, rdNum (lb s) i bad 0 2 = (v, j, b) := ⟨_, _, _, rfl⟩
  obtain ⟨v2, j2, b2, hz2⟩ : ∃ v j b, rdNum (lb s) j1 b1 1 20 = (v, j, b) := ⟨_, _, _, rfl⟩
  have e : (y, j, b') = ((v1, v2, Pd0, false, 0, Co0, 0), j2, b2) := by
    rw [← hz, show rM 6 1 = rM1 from rfl]
    have hy1 : rdNum (lb s) i bad ((0 : Nat) : Int) ((2 : Nat) : Int) = (v1, j1, b1) := hz1
    have hy2 : rdNum (lb s) j1 b1 ((1 : Nat) : Int) ((20 : Nat) : Int) = (v2, j2, b2) := hz2
    simp only [rM1, rdMap, rdBind, rI, hy1, hy2]
  injection e with e1 e2
  injection e2 with e2 e3
  have e2 := e2.symm
  have e3 := e3.symm
  subst e1; subst e2; subst e3
  obtain ⟨W0, hW0⟩ : ∃ W0, W0 = w.alloc (.cells #[.iface 128 (.agg #[.pointer (some ⟨g, 0, none⟩)]), .pointer (some ⟨b, 0, none⟩)] 114) := ⟨_, rfl⟩
  have kf0 : Blk W0 w.heap.size 114 #[.iface 128 (.agg #[.pointer (some ⟨g, 0, none⟩)]), .pointer (some ⟨b, 0, none⟩)] := by rw [hW0]; exact Blk.new w 114 #[.iface 128 (.agg #[.pointer (some ⟨g, 0, none⟩)]), .pointer (some ⟨b, 0, none⟩)]
  have hs0 : ROk W0 g s i bad := by rw [hW0]; exact rok_alloc h _
  have ke0 : Blk W0 b 42 (mtX (Mt0 1) none none 0 0) := by rw [hW0]; exact hE.alloc _
  have ho0 : Only (fun x => x = g ∨ x = b) w W0 := by rw [hW0]; exact (Only.refl _ _).alloc _
  obtain ⟨W1, st1, k1, bl1, s1⟩ := bk_fresh (P := Tryz.prog) W0 140 #[.nilFunc, .nilFunc, .nilFunc, .nilFunc, .nilFunc, .nilFunc, .nilFunc, .nilFunc] #[.func (.func 98) #[] #[], .func (.func 99) #[] #[], .func (.func 100) #[] #[], .func (.func 101) #[] #[], .func (.func 102) #[] #[], .func (.func 103) #[] #[], .func (.func 104) #[] #[], .func (.func 105) #[] #[]] 8 info8R rfl rfl (by simp [Value.oneCell'])
  have HW := Lib.hid hW0
  have HS := Lib.hid (RdOk.drew (rok_below hs0 bl1))
  have KE := Lib.hid ((ke0.below bl1 ke0.lt).drew)
  have HO := Lib.hid ((ho0.trans (Only.of_below _ bl1)).drew)
  have kf := kf0.below bl1 kf0.lt
  have KF := Lib.hid kf.drew
  have HBG := Lib.hid (And.intro hbg hbe)
  have x0 : W1.cell? ⟨b, 0, none⟩ = some (.int .i8 1) := mt_cell (ke0.below bl1 ke0.lt) (j := 0) rfl
  have x1 : W1.cell? ⟨w.heap.size, 1, none⟩ = some (.pointer (some ⟨b, 0, none⟩)) := kf.cell 1
  have x2 : W1.drew.cell? ⟨W0.heap.size, 1, none⟩ = some (.func (.func 99) #[] #[]) := k1.drew.cell 1
  have x3 := bk_load (P := Tryz.prog) 2 KF.out rfl
  have NM := Lib.hid (rmbegin g b (Mt0 1) none none 0 0 s i bad hz1 hz2 W1.drew HS.out KE.out HBG.out.1 HBG.out.2)
  clear hW0 kf0 hs0 ke0 ho0 k1 bl1 s1 kf h hE hbg hbe hz hz1 hz2
  go_enter Tryz.func68, Tryz.ntmps68
  go_upto_region 1 with (fail)
  rw [← HW.out]
  go_wp2_with fail
  refine wp_region_qtail 4 (by kernel_rfl) (by kernel_rfl) ?_
  simp only [List.take_succ_cons, List.take_zero, List.drop_succ_cons, List.drop_zero]
  repeat (go_big_quiet_step (fail))
  refine wpQuiet_nil ?_
  go_wp2_with fail
  refine NM.out.mono ?_
  rintro e w2 ⟨rfl, hs, hk, ho⟩
  have HR := Lib.hid (show RsP g b (mtOf 1 (v1, v2, Pd0, false, 0, Co0, 0)) s j2 b2 w (.returned (.tuple #[])) w2 from ⟨rfl, hs, ⟨none, 0, hk, Reads.none_, fun _ h => absurd h (Nat.lt_irrefl 0)⟩, HO.out.trans ho⟩)
  clear hs hk ho
  go_wp2_with fail
  go_end0
  exact HR.out
set_option maxRecDepth 100000 in
set_option maxHeartbeats 4000000 in
theorem rmall_2 (g b : Nat) (s : ByteArray) (i j : Nat) (bad b' : Bool) (y : Mb) (w : World) (h : ROk w g s i bad) (hE : Blk w b 42 (mtX (Mt0 2) none none 0 0)) (hbg : b ≠ g) (hbe : b ≠ 0) (hz : rM 6 2 (lb s) i bad = (y, j, b')) :
    Calls Tryz.prog 68 #[.agg #[.iface 128 (.agg #[.pointer (some ⟨g, 0, none⟩)]), .pointer (some ⟨b, 0, none⟩)]] w (RsP g b (mtOf 2 y) s j b' w) := by
  obtain ⟨v1, j1, b1, hz1⟩ : ∃ v j b, rdNum (lb s) i bad 0 2 = (v, j, b) := ⟨_, _, _, rfl⟩
  obtain ⟨v2, j2, b2, hz2⟩ : ∃ v j b, rdNum (lb s) j1 b1 0 1 = (v, j, b) := ⟨_, _, _, rfl⟩
  obtain ⟨v3, j3, b3, hz3⟩ : ∃ v j b, rdNum (lb s) j2 b2 0 2 = (v, j, b) := ⟨_, _, _, rfl⟩
  obtain ⟨v4, j4, b4, hz4⟩ : ∃ v j b, rdNum (lb s) j3 b3 0 1048576 = (v, j, b) := ⟨_, _, _, rfl⟩
  have e : (y, j, b') = ((v1, 0, (v2, v3, v4), false, 0, Co0, 0), j4, b4) := by
    rw [← hz, show rM 6 2 = rM2 from rfl]
    have hy1 : rdNum (lb s) i bad ((0 : Nat) : Int) ((2 : Nat) : Int) = (v1, j1, b1) := hz1
    have hy2 : rdNum (lb s) j1 b1 ((0 : Nat) : Int) ((1 : Nat) : Int) = (v2, j2, b2) := hz2
    have hy3 : rdNum (lb s) j2 b2 ((0 : Nat) : Int) ((2 : Nat) : Int) = (v3, j3, b3) := hz3
    have hy4 : rdNum (lb s) j3 b3 ((0 : Nat) : Int) ((1048576 : Nat) : Int) = (v4, j4, b4) := hz4
    simp only [rM2, rdMap, rdBind, rI, rdPn, hy1, hy2, hy3, hy4]
  injection e with e1 e2
  injection e2 with e2 e3
  have e2 := e2.symm
  have e3 := e3.symm
  subst e1; subst e2; subst e3
  obtain ⟨W0, hW0⟩ : ∃ W0, W0 = w.alloc (.cells #[.iface 128 (.agg #[.pointer (some ⟨g, 0, none⟩)]), .pointer (some ⟨b, 0, none⟩)] 114) := ⟨_, rfl⟩
  have kf0 : Blk W0 w.heap.size 114 #[.iface 128 (.agg #[.pointer (some ⟨g, 0, none⟩)]), .pointer (some ⟨b, 0, none⟩)] := by rw [hW0]; exact Blk.new w 114 #[.iface 128 (.agg #[.pointer (some ⟨g, 0, none⟩)]), .pointer (some ⟨b, 0, none⟩)]
  have hs0 : ROk W0 g s i bad := by rw [hW0]; exact rok_alloc h _
  have ke0 : Blk W0 b 42 (mtX (Mt0 2) none none 0 0) := by rw [hW0]; exact hE.alloc _
  have ho0 : Only (fun x => x = g ∨ x = b) w W0 := by rw [hW0]; exact (Only.refl _ _).alloc _
  obtain ⟨W1, st1, k1, bl1, s1⟩ := bk_fresh (P := Tryz.prog) W0 140 #[.nilFunc, .nilFunc, .nilFunc, .nilFunc, .nilFunc, .nilFunc, .nilFunc, .nilFunc] #[.func (.func 98) #[] #[], .func (.func 99) #[] #[], .func (.func 100) #[] #[], .func (.func 101) #[] #[], .func (.func 102) #[] #[], .func (.func 103) #[] #[], .func (.func 104) #[] #[], .func (.func 105) #[] #[]] 8 info8R rfl rfl (by simp [Value.oneCell'])
  have HW := Lib.hid hW0
  have HS := Lib.hid (RdOk.drew (rok_below hs0 bl1))
  have KE := Lib.hid ((ke0.below bl1 ke0.lt).drew)
  have HO := Lib.hid ((ho0.trans (Only.of_below _ bl1)).drew)
  have kf := kf0.below bl1 kf0.lt
  have KF := Lib.hid kf.drew
  have HBG := Lib.hid (And.intro hbg hbe)
  have x0 : W1.cell? ⟨b, 0, none⟩ = some (.int .i8 2) := mt_cell (ke0.below bl1 ke0.lt) (j := 0) rfl
  have x1 : W1.cell? ⟨w.heap.size, 1, none⟩ = some (.pointer (some ⟨b, 0, none⟩)) := kf.cell 1
  have x2 : W1.drew.cell? ⟨W0.heap.size, 2, none⟩ = some (.func (.func 100) #[] #[]) := k1.drew.cell 2
  have x3 := bk_load (P := Tryz.prog) 2 KF.out rfl
  have NM := Lib.hid (rmoffset g b (Mt0 2) none none 0 0 s i bad hz1 hz2 hz3 hz4 W1.drew HS.out KE.out HBG.out.1 HBG.out.2)
  clear hW0 kf0 hs0 ke0 ho0 k1 bl1 s1 kf h hE hbg hbe hz hz1 hz2 hz3 hz4
  go_enter Tryz.func68, Tryz.ntmps68
  go_upto_region 1 with (fail)
  rw [← HW.out]
  go_wp2_with fail
  refine wp_region_qtail 4 (by kernel_rfl) (by kernel_rfl) ?_
  simp only [List.take_succ_cons, List.take_zero, List.drop_succ_cons, List.drop_zero]
  repeat (go_big_quiet_step (fail))
  refine wpQuiet_nil ?_
  go_wp2_with fail
  refine NM.out.mono ?_
  rintro e w2 ⟨rfl, hs, hk, ho⟩
  have HR := Lib.hid (show RsP g b (mtOf 2 (v1, 0, (v2, v3, v4), false, 0, Co0, 0)) s j4 b4 w (.returned (.tuple #[])) w2 from ⟨rfl, hs, ⟨none, 0, hk, Reads.none_, fun _ h => absurd h (Nat.lt_irrefl 0)⟩, HO.out.trans ho⟩)
  clear hs hk ho
  go_wp2_with fail
  go_end0
  exact HR.out
set_option maxRecDepth 100000 in
set_option maxHeartbeats 4000000 in
theorem rmall_3 (g b : Nat) (s : ByteArray) (i j : Nat) (bad b' : Bool) (y : Mb) (w : World) (h : ROk w g s i bad) (hE : Blk w b 42 (mtX (Mt0 3) none none 0 0)) (hbg : b ≠ g) (hbe : b ≠ 0) (hz : rM 6 3 (lb s) i bad = (y, j, b')) :
    Calls Tryz.prog 68 #[.agg #[.iface 128 (.agg #[.pointer (some ⟨g, 0, none⟩)]), .pointer (some ⟨b, 0, none⟩)]] w (RsP g b (mtOf 3 y) s j b' w) := by
  obtain ⟨v1, j1, b1, hz1⟩ : ∃ v j b, rdNum (lb s) i bad 0 2 = (v, j, b) := ⟨_, _, _, rfl⟩
  obtain ⟨v2, j2, b2, hz2⟩ : ∃ v j b, rdFlag (lb s) j1 b1 = (v, j, b) := ⟨_, _, _, rfl⟩
  obtain ⟨v3, j3, b3, hz3⟩ : ∃ v j b, rdNum (lb s) j2 b2 0 20 = (v, j, b) := ⟨_, _, _, rfl⟩
  have e : (y, j, b') = ((v1, 0, Pd0, v2, v3, Co0, 0), j3, b3) := by
    rw [← hz, show rM 6 3 = rM3 from rfl]
    have hy1 : rdNum (lb s) i bad ((0 : Nat) : Int) ((2 : Nat) : Int) = (v1, j1, b1) := hz1
    have hy3 : rdNum (lb s) j2 b2 ((0 : Nat) : Int) ((20 : Nat) : Int) = (v3, j3, b3) := hz3
    simp only [rM3, rdMap, rdBind, rI, hy1, hz2, hy3]
  injection e with e1 e2
  injection e2 with e2 e3
  have e2 := e2.symm
  have e3 := e3.symm
  subst e1; subst e2; subst e3
  obtain ⟨W0, hW0⟩ : ∃ W0, W0 = w.alloc (.cells #[.iface 128 (.agg #[.pointer (some ⟨g, 0, none⟩)]), .pointer (some ⟨b, 0, none⟩)] 114) := ⟨_, rfl⟩
  have kf0 : Blk W0 w.heap.size 114 #[.iface 128 (.agg #[.pointer (some ⟨g, 0, none⟩)]), .pointer (some ⟨b, 0, none⟩)] := by rw [hW0]; exact Blk.new w 114 #[.iface 128 (.agg #[.pointer (some ⟨g, 0, none⟩)]), .pointer (some ⟨b, 0, none⟩)]
  have hs0 : ROk W0 g s i bad := by rw [hW0]; exact rok_alloc h _
  have ke0 : Blk W0 b 42 (mtX (Mt0 3) none none 0 0) := by rw [hW0]; exact hE.alloc _
  have ho0 : Only (fun x => x = g ∨ x = b) w W0 := by rw [hW0]; exact (Only.refl _ _).alloc _
  obtain ⟨W1, st1, k1, bl1, s1⟩ := bk_fresh (P := Tryz.prog) W0 140 #[.nilFunc, .nilFunc, .nilFunc, .nilFunc, .nilFunc, .nilFunc, .nilFunc, .nilFunc] #[.func (.func 98) #[] #[], .func (.func 99) #[] #[], .func (.func 100) #[] #[], .func (.func 101) #[] #[], .func (.func 102) #[] #[], .func (.func 103) #[] #[], .func (.func 104) #[] #[], .func (.func 105) #[] #[]] 8 info8R rfl rfl (by simp [Value.oneCell'])
  have HW := Lib.hid hW0
  have HS := Lib.hid (RdOk.drew (rok_below hs0 bl1))
  have KE := Lib.hid ((ke0.below bl1 ke0.lt).drew)
  have HO := Lib.hid ((ho0.trans (Only.of_below _ bl1)).drew)
  have kf := kf0.below bl1 kf0.lt
  have KF := Lib.hid kf.drew
  have HBG := Lib.hid (And.intro hbg hbe)
  have x0 : W1.cell? ⟨b, 0, none⟩ = some (.int .i8 3) := mt_cell (ke0.below bl1 ke0.lt) (j := 0) rfl
  have x1 : W1.cell? ⟨w.heap.size, 1, none⟩ = some (.pointer (some ⟨b, 0, none⟩)) := kf.cell 1
  have x2 : W1.drew.cell? ⟨W0.heap.size, 3, none⟩ = some (.func (.func 101) #[] #[]) := k1.drew.cell 3
  have x3 := bk_load (P := Tryz.prog) 2 KF.out rfl
  have NM := Lib.hid (rmprep g b (Mt0 3) none none 0 0 s i bad hz1 hz2 hz3 W1.drew HS.out KE.out HBG.out.1 HBG.out.2)
  clear hW0 kf0 hs0 ke0 ho0 k1 bl1 s1 kf h hE hbg hbe hz hz1 hz2 hz3
  go_enter Tryz.func68, Tryz.ntmps68
  go_upto_region 1 with (fail)
  rw [← HW.out]
  go_wp2_with fail
  refine wp_region_qtail 4 (by kernel_rfl) (by kernel_rfl) ?_
  simp only [List.take_succ_cons, List.take_zero, List.drop_succ_cons, List.drop_zero]
  repeat (go_big_quiet_step (fail))
  refine wpQuiet_nil ?_
  go_wp2_with fail
  refine NM.out.mono ?_
  rintro e w2 ⟨rfl, hs, hk, ho⟩
  have HR := Lib.hid (show RsP g b (mtOf 3 (v1, 0, Pd0, v2, v3, Co0, 0)) s j3 b3 w (.returned (.tuple #[])) w2 from ⟨rfl, hs, ⟨none, 0, hk, Reads.none_, fun _ h => absurd h (Nat.lt_irrefl 0)⟩, HO.out.trans ho⟩)
  clear hs hk ho
  go_wp2_with fail
  go_end0
  exact HR.out
set_option maxRecDepth 100000 in
set_option maxHeartbeats 4000000 in
theorem rmall_4 (g b : Nat) (s : ByteArray) (i j : Nat) (bad b' : Bool) (y : Mb) (w : World) (h : ROk w g s i bad) (hE : Blk w b 42 (mtX (Mt0 4) none none 0 0)) (hbg : b ≠ g) (hbe : b ≠ 0) (hz : rM 6 4 (lb s) i bad = (y, j, b')) :
    Calls Tryz.prog 68 #[.agg #[.iface 128 (.agg #[.pointer (some ⟨g, 0, none⟩)]), .pointer (some ⟨b, 0, none⟩)]] w (RsP g b (mtOf 4 y) s j b' w) := by
  obtain ⟨v1, j1, b1, hz1⟩ : ∃ v j b, rdNum (lb s) i bad 0 2 = (v, j, b) := ⟨_, _, _, rfl⟩
  have e : (y, j, b') = ((v1, 0, Pd0, false, 0, Co0, 0), j1, b1) := by
    rw [← hz, show rM 6 4 = rM4 from rfl]
    have hy1 : rdNum (lb s) i bad ((0 : Nat) : Int) ((2 : Nat) : Int) = (v1, j1, b1) := hz1
    simp only [rM4, rdMap, rdBind, rI, hy1]
  injection e with e1 e2
  injection e2 with e2 e3
  have e2 := e2.symm
  have e3 := e3.symm
  subst e1; subst e2; subst e3
  obtain ⟨W0, hW0⟩ : ∃ W0, W0 = w.alloc (.cells #[.iface 128 (.agg #[.pointer (some ⟨g, 0, none⟩)]), .pointer (some ⟨b, 0, none⟩)] 114) := ⟨_, rfl⟩
  have kf0 : Blk W0 w.heap.size 114 #[.iface 128 (.agg #[.pointer (some ⟨g, 0, none⟩)]), .pointer (some ⟨b, 0, none⟩)] := by rw [hW0]; exact Blk.new w 114 #[.iface 128 (.agg #[.pointer (some ⟨g, 0, none⟩)]), .pointer (some ⟨b, 0, none⟩)]
  have hs0 : ROk W0 g s i bad := by rw [hW0]; exact rok_alloc h _
  have ke0 : Blk W0 b 42 (mtX (Mt0 4) none none 0 0) := by rw [hW0]; exact hE.alloc _
  have ho0 : Only (fun x => x = g ∨ x = b) w W0 := by rw [hW0]; exact (Only.refl _ _).alloc _
  obtain ⟨W1, st1, k1, bl1, s1⟩ := bk_fresh (P := Tryz.prog) W0 140 #[.nilFunc, .nilFunc, .nilFunc, .nilFunc, .nilFunc, .nilFunc, .nilFunc, .nilFunc] #[.func (.func 98) #[] #[], .func (.func 99) #[] #[], .func (.func 100) #[] #[], .func (.func 101) #[] #[], .func (.func 102) #[] #[], .func (.func 103) #[] #[], .func (.func 104) #[] #[], .func (.func 105) #[] #[]] 8 info8R rfl rfl (by simp [Value.oneCell'])
  have HW := Lib.hid hW0
  have HS := Lib.hid (RdOk.drew (rok_below hs0 bl1))
  have KE := Lib.hid ((ke0.below bl1 ke0.lt).drew)
  have HO := Lib.hid ((ho0.trans (Only.of_below _ bl1)).drew)
  have kf := kf0.below bl1 kf0.lt
  have KF := Lib.hid kf.drew
  have HBG := Lib.hid (And.intro hbg hbe)
  have x0 : W1.cell? ⟨b, 0, none⟩ = some (.int .i8 4) := mt_cell (ke0.below bl1 ke0.lt) (j := 0) rfl
  have x1 : W1.cell? ⟨w.heap.size, 1, none⟩ = some (.pointer (some ⟨b, 0, none⟩)) := kf.cell 1
  have x2 : W1.drew.cell? ⟨W0.heap.size, 4, none⟩ = some (.func (.func 102) #[] #[]) := k1.drew.cell 4
  have x3 := bk_load (P := Tryz.prog) 2 KF.out rfl
  have NM := Lib.hid (rmtid g b (Mt0 4) none none 0 0 s i bad hz1 W1.drew HS.out KE.out HBG.out.1 HBG.out.2)
  clear hW0 kf0 hs0 ke0 ho0 k1 bl1 s1 kf h hE hbg hbe hz hz1
  go_enter Tryz.func68, Tryz.ntmps68
  go_upto_region 1 with (fail)
  rw [← HW.out]
  go_wp2_with fail
  refine wp_region_qtail 4 (by kernel_rfl) (by kernel_rfl) ?_
  simp only [List.take_succ_cons, List.take_zero, List.drop_succ_cons, List.drop_zero]
  repeat (go_big_quiet_step (fail))
  refine wpQuiet_nil ?_
  go_wp2_with fail
  refine NM.out.mono ?_
  rintro e w2 ⟨rfl, hs, hk, ho⟩
  have HR := Lib.hid (show RsP g b (mtOf 4 (v1, 0, Pd0, false, 0, Co0, 0)) s j1 b1 w (.returned (.tuple #[])) w2 from ⟨rfl, hs, ⟨none, 0, hk, Reads.none_, fun _ h => absurd h (Nat.lt_irrefl 0)⟩, HO.out.trans ho⟩)
  clear hs hk ho
  go_wp2_with fail
  go_end0
  exact HR.out
set_option maxRecDepth 100000 in
set_option maxHeartbeats 4000000 in
theorem rmall_5 (g b : Nat) (s : ByteArray) (i j : Nat) (bad b' : Bool) (y : Mb) (w : World) (h : ROk w g s i bad) (hE : Blk w b 42 (mtX (Mt0 5) none none 0 0)) (hbg : b ≠ g) (hbe : b ≠ 0) (hz : rM 6 5 (lb s) i bad = (y, j, b')) :
    Calls Tryz.prog 68 #[.agg #[.iface 128 (.agg #[.pointer (some ⟨g, 0, none⟩)]), .pointer (some ⟨b, 0, none⟩)]] w (RsP g b (mtOf 5 y) s j b' w) := by
  obtain ⟨v1, j1, b1, hz1⟩ : ∃ v j b, rdNum (lb s) i bad 0 1 = (v, j, b) := ⟨_, _, _, rfl⟩
  obtain ⟨v2, j2, b2, hz2⟩ : ∃ v j b, rdNum (lb s) j1 b1 0 2 = (v, j, b) := ⟨_, _, _, rfl⟩
  obtain ⟨v3, j3, b3, hz3⟩ : ∃ v j b, rdNum (lb s) j2 b2 0 1048576 = (v, j, b) := ⟨_, _, _, rfl⟩
  have e : (y, j, b') = ((0, 0, (v1, v2, v3), false, 0, Co0, 0), j3, b3) := by
    rw [← hz, show rM 6 5 = rM5 from rfl]
    have hy1 : rdNum (lb s) i bad ((0 : Nat) : Int) ((1 : Nat) : Int) = (v1, j1, b1) := hz1
    have hy2 : rdNum (lb s) j1 b1 ((0 : Nat) : Int) ((2 : Nat) : Int) = (v2, j2, b2) := hz2
    have hy3 : rdNum (lb s) j2 b2 ((0 : Nat) : Int) ((1048576 : Nat) : Int) = (v3, j3, b3) := hz3
    simp only [rM5, rdMap, rdBind, rI, rdPn, hy1, hy2, hy3]
  injection e with e1 e2
  injection e2 with e2 e3
  have e2 := e2.symm
  have e3 := e3.symm
  subst e1; subst e2; subst e3
  obtain ⟨W0, hW0⟩ : ∃ W0, W0 = w.alloc (.cells #[.iface 128 (.agg #[.pointer (some ⟨g, 0, none⟩)]), .pointer (some ⟨b, 0, none⟩)] 114) := ⟨_, rfl⟩
  have kf0 : Blk W0 w.heap.size 114 #[.iface 128 (.agg #[.pointer (some ⟨g, 0, none⟩)]), .pointer (some ⟨b, 0, none⟩)] := by rw [hW0]; exact Blk.new w 114 #[.iface 128 (.agg #[.pointer (some ⟨g, 0, none⟩)]), .pointer (some ⟨b, 0, none⟩)]
  have hs0 : ROk W0 g s i bad := by rw [hW0]; exact rok_alloc h _
  have ke0 : Blk W0 b 42 (mtX (Mt0 5) none none 0 0) := by rw [hW0]; exact hE.alloc _
  have ho0 : Only (fun x => x = g ∨ x = b) w W0 := by rw [hW0]; exact (Only.refl _ _).alloc _
  obtain ⟨W1, st1, k1, bl1, s1⟩ := bk_fresh (P := Tryz.prog) W0 140 #[.nilFunc, .nilFunc, .nilFunc, .nilFunc, .nilFunc, .nilFunc, .nilFunc, .nilFunc] #[.func (.func 98) #[] #[], .func (.func 99) #[] #[], .func (.func 100) #[] #[], .func (.func 101) #[] #[], .func (.func 102) #[] #[], .func (.func 103) #[] #[], .func (.func 104) #[] #[], .func (.func 105) #[] #[]] 8 info8R rfl rfl (by simp [Value.oneCell'])
  have HW := Lib.hid hW0
  have HS := Lib.hid (RdOk.drew (rok_below hs0 bl1))
  have KE := Lib.hid ((ke0.below bl1 ke0.lt).drew)
  have HO := Lib.hid ((ho0.trans (Only.of_below _ bl1)).drew)
  have kf := kf0.below bl1 kf0.lt
  have KF := Lib.hid kf.drew
  have HBG := Lib.hid (And.intro hbg hbe)
  have x0 : W1.cell? ⟨b, 0, none⟩ = some (.int .i8 5) := mt_cell (ke0.below bl1 ke0.lt) (j := 0) rfl
  have x1 : W1.cell? ⟨w.heap.size, 1, none⟩ = some (.pointer (some ⟨b, 0, none⟩)) := kf.cell 1
  have x2 : W1.drew.cell? ⟨W0.heap.size, 5, none⟩ = some (.func (.func 103) #[] #[]) := k1.drew.cell 5
  have x3 := bk_load (P := Tryz.prog) 2 KF.out rfl
  have NM := Lib.hid (rmcommit g b (Mt0 5) none none 0 0 s i bad hz1 hz2 hz3 W1.drew HS.out KE.out HBG.out.1 HBG.out.2)
  clear hW0 kf0 hs0 ke0 ho0 k1 bl1 s1 kf h hE hbg hbe hz hz1 hz2 hz3
  go_enter Tryz.func68, Tryz.ntmps68
  go_upto_region 1 with (fail)
  rw [← HW.out]
  go_wp2_with fail
  refine wp_region_qtail 4 (by kernel_rfl) (by kernel_rfl) ?_
  simp only [List.take_succ_cons, List.take_zero, List.drop_succ_cons, List.drop_zero]
  repeat (go_big_quiet_step (fail))
  refine wpQuiet_nil ?_
  go_wp2_with fail
  refine NM.out.mono ?_
  rintro e w2 ⟨rfl, hs, hk, ho⟩
  have HR := Lib.hid (show RsP g b (mtOf 5 (0, 0, (v1, v2, v3), false, 0, Co0, 0)) s j3 b3 w (.returned (.tuple #[])) w2 from ⟨rfl, hs, ⟨none, 0, hk, Reads.none_, fun _ h => absurd h (Nat.lt_irrefl 0)⟩, HO.out.trans ho⟩)
  clear hs hk ho
  go_wp2_with fail
  go_end0
  exact HR.out
set_option maxRecDepth 100000 in
set_option maxHeartbeats 4000000 in
theorem rmall_6 (g b : Nat) (s : ByteArray) (i j : Nat) (bad b' : Bool) (y : Mb) (w : World) (h : ROk w g s i bad) (hE : Blk w b 42 (mtX (Mt0 6) none none 0 0)) (hbg : b ≠ g) (hbe : b ≠ 0) (hz : rM 6 6 (lb s) i bad = (y, j, b')) :
    Calls Tryz.prog 68 #[.agg #[.iface 128 (.agg #[.pointer (some ⟨g, 0, none⟩)]), .pointer (some ⟨b, 0, none⟩)]] w (RsP g b (mtOf 6 y) s j b' w) := by
  obtain ⟨v1, j1, b1, hz1⟩ : ∃ v j b, rdNum (lb s) i bad 0 2 = (v, j, b) := ⟨_, _, _, rfl⟩
  obtain ⟨v2, j2, b2, hz2⟩ : ∃ v j b, rdNum (lb s) j1 b1 0 6 = (v, j, b) := ⟨_, _, _, rfl⟩
  obtain ⟨v3, j3, b3, hz3⟩ : ∃ v j b, rdNum (lb s) j2 b2 0 8 = (v, j, b) := ⟨_, _, _, rfl⟩
  obtain ⟨v4, j4, b4, hz4⟩ : ∃ v j b, rdNum (lb s) j3 b3 0 100 = (v, j, b) := ⟨_, _, _, rfl⟩
  obtain ⟨v5, j5, b5, hz5⟩ : ∃ v j b, rdNum (lb s) j4 b4 0 20 = (v, j, b) := ⟨_, _, _, rfl⟩
  obtain ⟨v6, j6, b6, hz6⟩ : ∃ v j b, rdNum (lb s) j5 b5 0 20 = (v, j, b) := ⟨_, _, _, rfl⟩
  obtain ⟨v7, j7, b7, hz7⟩ : ∃ v j b, rdNum (lb s) j6 b6 0 6 = (v, j, b) := ⟨_, _, _, rfl⟩
  obtain ⟨qs, j8, b8, hz8⟩ : ∃ v j b, rdRep rdPn v7.toNat (lb s) j7 b7 = (v, j, b) := ⟨_, _, _, rfl⟩
  obtain ⟨v9, j9, b9, hz9⟩ : ∃ v j b, rdNum (lb s) j8 b8 0 1048576 = (v, j, b) := ⟨_, _, _, rfl⟩
  have e : (y, j, b') = ((v1, 0, Pd0, false, 0, ⟨v2, v3, v4, v5, v6, [], qs, v9⟩, 0), j9, b9) := by
    rw [← hz, show rM 6 6 = (rM6 6) from rfl]
    have hy1 : rdNum (lb s) i bad ((0 : Nat) : Int) ((2 : Nat) : Int) = (v1, j1, b1) := hz1
    have hy2 : rdNum (lb s) j1 b1 ((0 : Nat) : Int) ((6 : Nat) : Int) = (v2, j2, b2) := hz2
    have hy3 : rdNum (lb s) j2 b2 ((0 : Nat) : Int) ((8 : Nat) : Int) = (v3, j3, b3) := hz3
    have hy4 : rdNum (lb s) j3 b3 ((0 : Nat) : Int) ((100 : Nat) : Int) = (v4, j4, b4) := hz4
    have hy5 : rdNum (lb s) j4 b4 ((0 : Nat) : Int) ((20 : Nat) : Int) = (v5, j5, b5) := hz5
    have hy6 : rdNum (lb s) j5 b5 ((0 : Nat) : Int) ((20 : Nat) : Int) = (v6, j6, b6) := hz6
    have hy7 : rdNum (lb s) j6 b6 ((0 : Nat) : Int) ((6 : Nat) : Int) = (v7, j7, b7) := hz7
    have hy9 : rdNum (lb s) j8 b8 ((0 : Nat) : Int) ((1048576 : Nat) : Int) = (v9, j9, b9) := hz9
    simp only [rM6, rdMap, rdBind, rI, rdCo, rdCb, coOf, hy1, hy2, hy3, hy4, hy5, hy6, hy7, hz8, hy9]
  injection e with e1 e2
  injection e2 with e2 e3
  have e2 := e2.symm
  have e3 := e3.symm
  subst e1; subst e2; subst e3
  obtain ⟨W0, hW0⟩ : ∃ W0, W0 = w.alloc (.cells #[.iface 128 (.agg #[.pointer (some ⟨g, 0, none⟩)]), .pointer (some ⟨b, 0, none⟩)] 114) := ⟨_, rfl⟩
  have kf0 : Blk W0 w.heap.size 114 #[.iface 128 (.agg #[.pointer (some ⟨g, 0, none⟩)]), .pointer (some ⟨b, 0, none⟩)] := by rw [hW0]; exact Blk.new w 114 #[.iface 128 (.agg #[.pointer (some ⟨g, 0, none⟩)]), .pointer (some ⟨b, 0, none⟩)]
  have hs0 : ROk W0 g s i bad := by rw [hW0]; exact rok_alloc h _
  have ke0 : Blk W0 b 42 (mtX (Mt0 6) none none 0 0) := by rw [hW0]; exact hE.alloc _
  have ho0 : Only (fun x => x = g ∨ x = b) w W0 := by rw [hW0]; exact (Only.refl _ _).alloc _
  obtain ⟨W1, st1, k1, bl1, s1⟩ := bk_fresh (P := Tryz.prog) W0 140 #[.nilFunc, .nilFunc, .nilFunc, .nilFunc, .nilFunc, .nilFunc, .nilFunc, .nilFunc] #[.func (.func 98) #[] #[], .func (.func 99) #[] #[], .func (.func 100) #[] #[], .func (.func 101) #[] #[], .func (.func 102) #[] #[], .func (.func 103) #[] #[], .func (.func 104) #[] #[], .func (.func 105) #[] #[]] 8 info8R rfl rfl (by simp [Value.oneCell'])
  have HW := Lib.hid hW0
  have HS := Lib.hid (RdOk.drew (rok_below hs0 bl1))
  have KE := Lib.hid ((ke0.below bl1 ke0.lt).drew)
  have HO := Lib.hid ((ho0.trans (Only.of_below _ bl1)).drew)
  have kf := kf0.below bl1 kf0.lt
  have KF := Lib.hid kf.drew
  have HBG := Lib.hid (And.intro hbg hbe)
  have x0 : W1.cell? ⟨b, 0, none⟩ = some (.int .i8 6) := mt_cell (ke0.below bl1 ke0.lt) (j := 0) rfl
  have x1 : W1.cell? ⟨w.heap.size, 1, none⟩ = some (.pointer (some ⟨b, 0, none⟩)) := kf.cell 1
  have x2 : W1.drew.cell? ⟨W0.heap.size, 6, none⟩ = some (.func (.func 104) #[] #[]) := k1.drew.cell 6
  have x3 := bk_load (P := Tryz.prog) 2 KF.out rfl
  have NM := Lib.hid (rmstate g b (Mt0 6) s i bad hz1 hz2 hz3 hz4 hz5 hz6 hz7 hz8 hz9 W1.drew HS.out KE.out HBG.out.1 HBG.out.2 rfl)
  clear hW0 kf0 hs0 ke0 ho0 k1 bl1 s1 kf h hE hbg hbe hz hz1 hz2 hz3 hz4 hz5 hz6 hz7 hz8 hz9
  go_enter Tryz.func68, Tryz.ntmps68
  go_upto_region 1 with (fail)
  rw [← HW.out]
  go_wp2_with fail
  refine wp_region_qtail 4 (by kernel_rfl) (by kernel_rfl) ?_
  simp only [List.take_succ_cons, List.take_zero, List.drop_succ_cons, List.drop_zero]
  repeat (go_big_quiet_step (fail))
  refine wpQuiet_nil ?_
  go_wp2_with fail
  refine NM.out.mono ?_
  rintro e w2 ⟨rfl, hs, hk, ho⟩
  obtain ⟨D, e2, hk1, hk3, hk4⟩ := hk
  have hk2 : ∃ D e2, Blk w2 b 42 (mtX (mtOf 6 (v1, 0, Pd0, false, 0, ⟨v2, v3, v4, v5, v6, [], qs, v9⟩, 0)) none D 0 e2) ∧ Reads w2 w2.heap.size 3 D qs.length (cellsP qs) ∧ ∀ ad, 0 < qs.length → D = some ad → w.heap.size ≤ ad.block := ⟨D, e2, hk1, hk3, fun ad h0 hd => Nat.le_trans HO.out.size (hk4 ad h0 hd)⟩
  have HR := Lib.hid (show RsP g b (mtOf 6 (v1, 0, Pd0, false, 0, ⟨v2, v3, v4, v5, v6, [], qs, v9⟩, 0)) s j9 b9 w (.returned (.tuple #[])) w2 from ⟨rfl, hs, hk2, HO.out.trans ho⟩)
  clear hs ho
  go_wp2_with fail
  go_end0
  exact HR.out
set_option maxRecDepth 100000 in
set_option maxHeartbeats 4000000 in
theorem rmall_7 (g b : Nat) (s : ByteArray) (i j : Nat) (bad b' : Bool) (y : Mb) (w : World) (h : ROk w g s i bad) (hE : Blk w b 42 (mtX (Mt0 7) none none 0 0)) (hbg : b ≠ g) (hbe : b ≠ 0) (hz : rM 6 7 (lb s) i bad = (y, j, b')) :
    Calls Tryz.prog 68 #[.agg #[.iface 128 (.agg #[.pointer (some ⟨g, 0, none⟩)]), .pointer (some ⟨b, 0, none⟩)]] w (RsP g b (mtOf 7 y) s j b' w) := by
  obtain ⟨v1, j1, b1, hz1⟩ : ∃ v j b, rdNum (lb s) i bad 0 8 = (v, j, b) := ⟨_, _, _, rfl⟩
  have e : (y, j, b') = ((0, 0, Pd0, false, 0, Co0, v1), j1, b1) := by
    rw [← hz, show rM 6 7 = rM7 from rfl]
    have hy1 : rdNum (lb s) i bad ((0 : Nat) : Int) ((8 : Nat) : Int) = (v1, j1, b1) := hz1
    simp only [rM7, rdMap, rdBind, rI, hy1]
  injection e with e1 e2
  injection e2 with e2 e3
  have e2 := e2.symm
  have e3 := e3.symm
  subst e1; subst e2; subst e3
  obtain ⟨W0, hW0⟩ : ∃ W0, W0 = w.alloc (.cells #[.iface 128 (.agg #[.pointer (some ⟨g, 0, none⟩)]), .pointer (some ⟨b, 0, none⟩)] 114) := ⟨_, rfl⟩
  have kf0 : Blk W0 w.heap.size 114 #[.iface 128 (.agg #[.pointer (some ⟨g, 0, none⟩)]), .pointer (some ⟨b, 0, none⟩)] := by rw [hW0]; exact Blk.new w 114 #[.iface 128 (.agg #[.pointer (some ⟨g, 0, none⟩)]), .pointer (some ⟨b, 0, none⟩)]
  have hs0 : ROk W0 g s i bad := by rw [hW0]; exact rok_alloc h _
  have ke0 : Blk W0 b 42 (mtX (Mt0 7) none none 0 0) := by rw [hW0]; exact hE.alloc _
  have ho0 : Only (fun x => x = g ∨ x = b) w W0 := by rw [hW0]; exact (Only.refl _ _).alloc _
  obtain ⟨W1, st1, k1, bl1, s1⟩ := bk_fresh (P := Tryz.prog) W0 140 #[.nilFunc, .nilFunc, .nilFunc, .nilFunc, .nilFunc, .nilFunc, .nilFunc, .nilFunc] #[.func (.func 98) #[] #[], .func (.func 99) #[] #[], .func (.func 100) #[] #[], .func (.func 101) #[] #[], .func (.func 102) #[] #[], .func (.func 103) #[] #[], .func (.func 104) #[] #[], .func (.func 105) #[] #[]] 8 info8R rfl rfl (by simp [Value.oneCell'])
  have HW := Lib.hid hW0
  have HS := Lib.hid (RdOk.drew (rok_below hs0 bl1))
  have KE := Lib.hid ((ke0.below bl1 ke0.lt).drew)
  have HO := Lib.hid ((ho0.trans (Only.of_below _ bl1)).drew)
  have kf := kf0.below bl1 kf0.lt
  have KF := Lib.hid kf.drew
  have HBG := Lib.hid (And.intro hbg hbe)
  have x0 : W1.cell? ⟨b, 0, none⟩ = some (.int .i8 7) := mt_cell (ke0.below bl1 ke0.lt) (j := 0) rfl
  have x1 : W1.cell? ⟨w.heap.size, 1, none⟩ = some (.pointer (some ⟨b, 0, none⟩)) := kf.cell 1
  have x2 : W1.drew.cell? ⟨W0.heap.size, 7, none⟩ = some (.func (.func 105) #[] #[]) := k1.drew.cell 7
  have x3 := bk_load (P := Tryz.prog) 2 KF.out rfl
  have NM := Lib.hid (rmnext g b (Mt0 7) none none 0 0 s i bad hz1 W1.drew HS.out KE.out HBG.out.1 HBG.out.2)
  clear hW0 kf0 hs0 ke0 ho0 k1 bl1 s1 kf h hE hbg hbe hz hz1
  go_enter Tryz.func68, Tryz.ntmps68
  go_upto_region 1 with (fail)
  rw [← HW.out]
  go_wp2_with fail
  refine wp_region_qtail 4 (by kernel_rfl) (by kernel_rfl) ?_
  simp only [List.take_succ_cons, List.take_zero, List.drop_succ_cons, List.drop_zero]
  repeat (go_big_quiet_step (fail))
  refine wpQuiet_nil ?_
  go_wp2_with fail
  refine NM.out.mono ?_
  rintro e w2 ⟨rfl, hs, hk, ho⟩
  have HR := Lib.hid (show RsP g b (mtOf 7 (0, 0, Pd0, false, 0, Co0, v1)) s j1 b1 w (.returned (.tuple #[])) w2 from ⟨rfl, hs, ⟨none, 0, hk, Reads.none_, fun _ h => absurd h (Nat.lt_irrefl 0)⟩, HO.out.trans ho⟩)
  clear hs hk ho
  go_wp2_with fail
  go_end0
  exact HR.out
/-- All fields of a kind. -/
theorem rmall (g b : Nat) (kd : Int) (s : ByteArray) (i j : Nat) (bad b' : Bool) (y : Mb) (w : World) (h : ROk w g s i bad) (hE : Blk w b 42 (mtX (Mt0 kd) none none 0 0)) (hbg : b ≠ g) (hbe : b ≠ 0) (h0 : 0 ≤ kd) (h7 : kd ≤ 7) (hz : rM 6 kd (lb s) i bad = (y, j, b')) :
    Calls Tryz.prog 68 #[.agg #[.iface 128 (.agg #[.pointer (some ⟨g, 0, none⟩)]), .pointer (some ⟨b, 0, none⟩)]] w (RsP g b (mtOf kd y) s j b' w) := by
  obtain rfl | rfl | rfl | rfl | rfl | rfl | rfl | rfl : kd = 0 ∨ kd = 1 ∨ kd = 2 ∨ kd = 3 ∨ kd = 4 ∨ kd = 5 ∨ kd = 6 ∨ kd = 7 := by omega
  · exact rmall_0 g b s i j bad b' y w h hE hbg hbe hz
  · exact rmall_1 g b s i j bad b' y w h hE hbg hbe hz
  · exact rmall_2 g b s i j bad b' y w h hE hbg hbe hz
  · exact rmall_3 g b s i j bad b' y w h hE hbg hbe hz
  · exact rmall_4 g b s i j bad b' y w h hE hbg hbe hz
  · exact rmall_5 g b s i j bad b' y w h hE hbg hbe hz
  · exact rmall_6 g b s i j bad b' y w h hE hbg hbe hz
  · exact rmall_7 g b s i j bad b' y w h hE hbg hbe hz
end Go.Proofs.YtbpkckahonmpkaaGreatDoor
namespace Go.Proofs.YtbpkckahonmpkaaGreatDoor
open Go.RowKit
theorem store_i8U {W : World} {a : Addr} {u : Value} (k : Int) (h : W.cell? a = some u) (hf : W.frozen? a = false) : (storeVar 25 a (.int .i8 k)).run Tryz.prog W = .ok () (W.setCell a (.int .i8 k)) := by
  simp [go_sem, h, hf]
theorem coR_hold {w w' : World} {c : Co} {D : Option Addr} {X : Nat} (h : CoR w w.heap.size c none D) (off : ∀ ad, 0 < c.qs.length → D = some ad → ad.block ≠ X) (fh : ∀ y, y ≠ X → w'.heap[y]? = w.heap[y]?) (fs : w'.heap.size = w.heap.size) : CoR w' w'.heap.size c none D := by
  rw [fs]
  refine ⟨⟨h.1.1, fun hn => ?_⟩, ⟨h.2.1.1, fun hn => ?_⟩, h.2.2⟩
  · obtain ⟨ad, hd, _⟩ := h.1.2 hn
    cases hd
  · obtain ⟨ad, hd, hb, hc⟩ := h.2.1.2 hn
    refine ⟨ad, hd, hb, fun j u hu => ?_⟩
    rw [← hc j u hu]
    exact World.cell?_of_block (by rw [block_of_add]; exact fh _ (off ad hn hd))
theorem int_fresh (w1 : World) (n : Int) : ∃ W', (storeVar 3 ⟨w1.heap.size, 0, none⟩ (.int .i64 n)).run Tryz.prog (w1.alloc (.cells #[.int .i64 0] 3)) = .ok () W' ∧ Blk W' w1.heap.size 3 #[.int .i64 n] ∧ Below w1.heap.size w1 W' ∧ W'.heap.size = w1.heap.size + 1 := by
  have k := Blk.new w1 3 #[.int .i64 0]
  exact ⟨_, store_intS n (k.cell 0) (k.frozen 0), k.set_ 0 (.int .i64 n), (bal (Below.refl _ _) _).setCell (p := ⟨w1.heap.size, 0, none⟩) (Nat.le_refl _) _, by simp [World.setCell]⟩
theorem infoRd : (Tryz.prog.info? 128).map (·.size) = some 1 := by kernel_rfl
theorem rM_ps (S : Nat) (kd : Int) (l : List UInt8) (i : Nat) (b : Bool) : (rM S kd l i b).1.2.2.2.2.2.1.ps = [] := by
  unfold rM
  repeat' split
  all_goals rfl
theorem rdCo_qs (S : Nat) (l : List UInt8) (i : Nat) (b : Bool) : (rdCo S l i b).1.qs.length ≤ 6 := by
  unfold rdCo rdCb
  simp only [rdMap, rdBind, coOf]
  rw [rdRep_len]
  generalize hz : rI 0 6 l _ _ = r
  obtain ⟨v, j, b'⟩ := r
  have h2 := rdNum_rng hz
  simp only
  have : (((6 : Nat) : Int)) = 6 := rfl
  omega
theorem rM_qs (S : Nat) (kd : Int) (l : List UInt8) (i : Nat) (b : Bool) : (rM S kd l i b).1.2.2.2.2.2.1.qs.length ≤ 6 := by
  unfold rM
  repeat' split
  all_goals first | exact rdCo_qs S _ _ _ | exact Nat.zero_le _
section
attribute [-go_sem] loadCells storeVar
theorem mlread_ret (X : Array Value) (v3 : Value) (tmps : Array Value) (b : Nat) (W : World) (h2 : tmps[2]?.getD undef = .pointer (some ⟨b, 0, none⟩)) (h3 : tmps[3]?.getD undef = v3) (hK : Blk W b 42 X) (hX : X.size = 17) :
    (results Tryz.f53 tmps).run Tryz.prog W = .ok (.tuple #[.agg X, v3]) W := by
  have LC := bk_load (P := Tryz.prog) 17 hK hX
  clear hK
  simp [results, Tryz.results53, go_sem, h2, h3, LC]
theorem mlRead_ret (X : Array Value) (v3 : Value) (tmps : Array Value) (b : Nat) (W : World) (h2 : tmps[2]?.getD undef = .pointer (some ⟨b, 0, none⟩)) (h3 : tmps[3]?.getD undef = v3) (hK : Blk W b 42 X) (hX : X.size = 17) :
    (results Tryz.f26 tmps).run Tryz.prog W = .ok (.tuple #[.agg X, v3]) W := by
  have LC := bk_load (P := Tryz.prog) 17 hK hX
  clear hK
  simp [results, Tryz.results26, go_sem, h2, h3, LC]
/-- What read hands back. -/
def MrP (x : Mt) (n : Int) (w : World) (e : Ending) (w' : World) : Prop :=
  (n = 0 ∧ ∃ D e', e = .returned (.tuple #[.agg (mtX x none D 0 e'), .nilIface]) ∧ CoR w' w'.heap.size x.c none D ∧ Below w.heap.size w w' ∧ ∀ ad, 0 < x.c.qs.length → D = some ad → w.heap.size ≤ ad.block) ∨
  (n = 70 ∧ x = MtNil ∧ MwNo 70 (.agg (mtX MtNil none none 0 0)) w e w')
set_option maxRecDepth 100000 in
set_option maxHeartbeats 8000000 in
theorem mlread_any (s : ByteArray) (w : World) (hg : HasET w) (hl : s.size ≤ 100000) :
    Calls Tryz.prog 53 #[.string s] w (MrP (readM 7 6 (lb s)).1 (readM 7 6 (lb s)).2 w) := by
  obtain ⟨kd, j1, b1, hz1⟩ : ∃ v j b, rdNum (lb s) 0 false 0 7 = (v, j, b) := ⟨_, _, _, rfl⟩
  obtain ⟨y, j2, b2, hz2⟩ : ∃ v j b, rM 6 kd (lb s) j1 b1 = (v, j, b) := ⟨_, _, _, rfl⟩
  have hk : 0 ≤ kd ∧ kd ≤ 7 := by rcases rdNum_rng hz1 with h | h <;> omega
  have hR : rdMt 7 6 (lb s) 0 false = (mtOf kd y, j2, b2) := by
    have hy1 : rdNum (lb s) 0 false ((0 : Nat) : Int) ((7 : Nat) : Int) = (kd, j1, b1) := hz1
    simp only [rdMt, rdMap, rdBind, rI, hy1, hz2]
  have hRR : readM 7 6 (lb s) = if b2 = true ∨ j2 ≠ s.size ∨ mayM (mtOf kd y) = false then (MtNil, 70) else (mtOf kd y, 0) := by
    unfold readM
    rw [hR, length_lb]
  have hps : (mtOf kd y).c.ps = [] := by have := rM_ps 6 kd (lb s) j1 b1; rw [hz2] at this; exact this
  have hqs : (mtOf kd y).c.qs.length ≤ 6 := by have := rM_qs 6 kd (lb s) j1 b1; rw [hz2] at this; exact this
  have wc8 : IntKind.i8.wrap kd = kd := IntWalk.i8_in _ (by omega)
  obtain ⟨Wa, hWa⟩ : ∃ Wa, Wa = (w.alloc (.cells #[.int .i8 0, .int .i64 0, .int .i64 0, .int .i64 0, .int .i64 0, .int .i64 0, .bool false, .int .i64 0, .int .i8 0, .int .i64 0, .int .i64 0, .int .i64 0, .int .i64 0, .slice none 0 0, .slice none 0 0, .int .i64 0, .int .i64 0] 42)).alloc (.cells #[.int .i8 0, .int .i64 0, .int .i64 0, .int .i64 0, .int .i64 0, .int .i64 0, .bool false, .int .i64 0, .int .i8 0, .int .i64 0, .int .i64 0, .int .i64 0, .int .i64 0, .slice none 0 0, .slice none 0 0, .int .i64 0, .int .i64 0] 42) := ⟨_, rfl⟩
  have sa : Wa.heap.size = w.heap.size + 1 + 1 := by rw [hWa]; simp
  have Ba : Below w.heap.size w Wa := by rw [hWa]; exact bal (bal (Below.refl _ _) _) _
  have KXa : Blk Wa w.heap.size 42 #[.int .i8 0, .int .i64 0, .int .i64 0, .int .i64 0, .int .i64 0, .int .i64 0, .bool false, .int .i64 0, .int .i8 0, .int .i64 0, .int .i64 0, .int .i64 0, .int .i64 0, .slice none 0 0, .slice none 0 0, .int .i64 0, .int .i64 0] := by rw [hWa]; exact (Blk.new w 42 #[.int .i8 0, .int .i64 0, .int .i64 0, .int .i64 0, .int .i64 0, .int .i64 0, .bool false, .int .i64 0, .int .i8 0, .int .i64 0, .int .i64 0, .int .i64 0, .int .i64 0, .slice none 0 0, .slice none 0 0, .int .i64 0, .int .i64 0]).alloc _
  have KEa : Blk Wa (w.heap.size + 1) 42 #[.int .i8 0, .int .i64 0, .int .i64 0, .int .i64 0, .int .i64 0, .int .i64 0, .bool false, .int .i64 0, .int .i8 0, .int .i64 0, .int .i64 0, .int .i64 0, .int .i64 0, .slice none 0 0, .slice none 0 0, .int .i64 0, .int .i64 0] := by rw [hWa]; exact bk_new _ 42 #[.int .i8 0, .int .i64 0, .int .i64 0, .int .i64 0, .int .i64 0, .int .i64 0, .bool false, .int .i64 0, .int .i8 0, .int .i64 0, .int .i64 0, .int .i64 0, .int .i64 0, .slice none 0 0, .slice none 0 0, .int .i64 0, .int .i64 0] (by simp)
  have NW := Lib.hid (RNew_any s Wa)
  obtain ⟨W3, hW3⟩ : ∃ W3, W3 = Wa.alloc (.cells #[.string s, .int .i64 0, .bool false] 164) := ⟨_, rfl⟩
  have s3 : W3.heap.size = w.heap.size + 1 + 1 + 1 := by rw [hW3]; simp [sa]
  have K3 : Blk W3 (w.heap.size + 1 + 1) 164 #[.string s, .int .i64 0, .bool false] := by rw [hW3]; exact bk_new _ 164 _ sa
  have B3 : Below w.heap.size w W3 := by rw [hW3]; exact bal Ba _
  have hglt := hg.lt
  have R3 : ROk W3 (w.heap.size + 1 + 1) s 0 false := ⟨K3, Nat.zero_le _, hg.up B3, hl, by omega, by omega, Nat.le_refl _⟩
  obtain ⟨W4, st4, k4, b4, s4⟩ := bk_fresh (P := Tryz.prog) W3 128 #[.pointer none] #[.pointer (some ⟨w.heap.size + 1 + 1, 0, none⟩)] 1 infoRd rfl rfl (by simp [Value.oneCell'])
  obtain ⟨W5, st5, k5, b5, s5⟩ := int_fresh W4 0
  have b35 := b4.trans (b5.mono b4.size)
  have R5 := rok_below R3 b35
  have KE5 : Blk W5 (w.heap.size + 1) 42 #[.int .i8 0, .int .i64 0, .int .i64 0, .int .i64 0, .int .i64 0, .int .i64 0, .bool false, .int .i64 0, .int .i8 0, .int .i64 0, .int .i64 0, .int .i64 0, .int .i64 0, .slice none 0 0, .slice none 0 0, .int .i64 0, .int .i64 0] := (show Blk W3 (w.heap.size + 1) 42 #[.int .i8 0, .int .i64 0, .int .i64 0, .int .i64 0, .int .i64 0, .int .i64 0, .bool false, .int .i64 0, .int .i8 0, .int .i64 0, .int .i64 0, .int .i64 0, .int .i64 0, .slice none 0 0, .slice none 0 0, .int .i64 0, .int .i64 0] by rw [hW3]; exact KEa.alloc _).below b35 (by omega)
  have KX5 : Blk W5 w.heap.size 42 #[.int .i8 0, .int .i64 0, .int .i64 0, .int .i64 0, .int .i64 0, .int .i64 0, .bool false, .int .i64 0, .int .i8 0, .int .i64 0, .int .i64 0, .int .i64 0, .int .i64 0, .slice none 0 0, .slice none 0 0, .int .i64 0, .int .i64 0] := (show Blk W3 w.heap.size 42 #[.int .i8 0, .int .i64 0, .int .i64 0, .int .i64 0, .int .i64 0, .int .i64 0, .bool false, .int .i64 0, .int .i8 0, .int .i64 0, .int .i64 0, .int .i64 0, .int .i64 0, .slice none 0 0, .slice none 0 0, .int .i64 0, .int .i64 0] by rw [hW3]; exact KXa.alloc _).below b35 (by omega)
  have KR5 : Blk W5 W3.heap.size 128 #[.pointer (some ⟨w.heap.size + 1 + 1, 0, none⟩)] := k4.below b5 (by omega)
  have l4 := bk_load (P := Tryz.prog) 1 KR5 rfl
  have NN := Lib.hid (rmnum (w.heap.size + 1 + 1) W4.heap.size 0 3 #[.int .i64 0] s 0 j1 false b1 0 7 kd W5 R5 k5 (by decide) (by omega) (by omega) hz1)
  have B5 := Lib.hid (B3.trans (b35.mono B3.size))
  have KX := Lib.hid KX5
  have KE := Lib.hid KE5
  have KR := Lib.hid KR5
  have HS := Lib.hid (show W3.heap.size = w.heap.size + 1 + 1 + 1 ∧ W4.heap.size = w.heap.size + 1 + 1 + 1 + 1 ∧ W5.heap.size = w.heap.size + 1 + 1 + 1 + 1 + 1 ∧ 0 < w.heap.size by omega)
  have HK := Lib.hid hk
  have HZ2 := Lib.hid hz2
  have HRR := Lib.hid hRR
  have HPS := Lib.hid hps
  have HQS := Lib.hid hqs
  have HWA := Lib.hid hWa
  have HW3 := Lib.hid hW3
  have HSA := Lib.hid sa
  clear hWa sa Ba KXa KEa hW3 s3 K3 B3 hglt R3 k4 b4 s4 k5 b5 s5 b35 R5 KE5 KX5 KR5 hg hl hk hz1 hz2 hR hRR hps hqs
  go_enter Tryz.func53, Tryz.ntmps53
  go_upto_region 2 with (fail)
  rw [← HWA.out]
  go_wp2_with (go_at_call 83; refine NW.out.mono ?_; rw [← HW3.out]; rintro e w3 ⟨rfl, rfl⟩; rw [HSA.out])
  refine NN.out.mono ?_
  rintro e w6 ⟨rfl, r6, k6, o6⟩
  have y6 : w6.cell? ⟨W4.heap.size, 0, none⟩ = some (.int .i64 kd) := k6.cell 0
  have ke6 := o6.blk KE.out (by have := HS.out; omega)
  have st7 := store_i8U kd (ke6.cell 0) (ke6.frozen 0)
  have hs := HS.out
  have KE7 := Lib.hid (show Blk (w6.setCell ⟨w.heap.size + 1, 0, none⟩ (.int .i8 kd)) (w.heap.size + 1) 42 (mtX (Mt0 kd) none none 0 0) from ke6.set_ 0 (.int .i8 kd))
  have KR7 := Lib.hid ((o6.blk KR.out (by omega)).far (p := ⟨w.heap.size + 1, 0, none⟩) (by show W3.heap.size ≠ w.heap.size + 1; omega) (.int .i8 kd))
  have KX7 := Lib.hid ((o6.blk KX.out (by omega)).far (p := ⟨w.heap.size + 1, 0, none⟩) (by show w.heap.size ≠ w.heap.size + 1; omega) (.int .i8 kd))
  have R7 := rok_far r6 (p := w.heap.size + 1) (by omega) (by omega) 0 (.int .i8 kd)
  have O7 := Lib.hid ((B5.out.trans (o6.below B5.out.size (fun x hx => by omega))).setCell (p := ⟨w.heap.size + 1, 0, none⟩) (by show w.heap.size ≤ w.heap.size + 1; omega) (.int .i8 kd))
  obtain ⟨W7, hW7⟩ : ∃ W7, W7 = w6.setCell ⟨w.heap.size + 1, 0, none⟩ (.int .i8 kd) := ⟨_, rfl⟩
  rw [← hW7] at st7 KE7 KR7 KX7 R7 O7
  have l7 := bk_load (P := Tryz.prog) 1 KR7.out rfl
  have NA := Lib.hid (rmall (w.heap.size + 1 + 1) (w.heap.size + 1) kd s j1 j2 b1 b2 y W7 R7 KE7.out (by omega) (by omega) HK.out.1 HK.out.2 HZ2.out)
  have HW7 := Lib.hid (show w.heap.size < W7.heap.size from KX7.out.lt)
  clear hW7 r6 k6 o6 ke6 R7 hs
  go_wp2_with fail
  refine NA.out.mono ?_
  rintro e w9 ⟨rfl, r9, ⟨D, e', k9, rd9, of9⟩, o9⟩
  have OF9 := Lib.hid of9
  have hs := HS.out
  have KR9 := Lib.hid (o9.blk KR7.out (by omega))
  have KX9 := Lib.hid (o9.blk KX7.out (by omega))
  have B9 := Lib.hid (O7.out.trans (o9.below O7.out.size (fun x hx => by omega)))
  have K9 := Lib.hid k9
  have RD9 := Lib.hid rd9
  have z0 := KR9.out.cell 0
  have E1 := Lib.hid (REnd_any (w.heap.size + 1 + 1) s j2 b2 w9 r9.1)
  clear r9 k9 rd9 of9 o9 hs l4 l7 st4 st5 st7 y6
  by_cases hE : b2 = true ∨ j2 ≠ s.size
  · have he : endOf s.size j2 b2 = 70 := if_pos hE
    rw [he] at E1
    have hrr : readM 7 6 (lb s) = (MtNil, 70) := by
      rw [HRR.out, if_pos (by rcases hE with h | h; exact .inl h; exact .inr (.inl h))]
    have HR7 := Lib.hid hrr
    clear hE he hrr
    go_wp2_with fail
    refine E1.out.mono ?_
    rintro e w10 ⟨rfl, n, rfl⟩
    clear z0
    obtain ⟨W11, st11, k11, fb11, fh11, fs11⟩ := bk_store (P := Tryz.prog) (ty := 42) (cs := #[.int .i8 0, .int .i64 0, .int .i64 0, .int .i64 0, .int .i64 0, .int .i64 0, .bool false, .int .i64 0, .int .i8 0, .int .i64 0, .int .i64 0, .int .i64 0, .int .i64 0, .slice none 0 0, .slice none 0 0, .int .i64 0, .int .i64 0]) 17 ((KX9.out.drewN n).alloc (.cells #[.string ⟨#[98, 121, 116, 101, 115, 32, 111, 102, 32, 110, 111, 32, 101, 110, 116, 114, 121]⟩, .int .i64 70] 104)) infoMt rfl rfl (by simp [Value.oneCell'])
    have hfa : W11.cell? ⟨(w9.drewN n).heap.size, 1, none⟩ = some (.int .i64 70) := by
      have kf := Blk.new (w9.drewN n) 104 #[.string ⟨#[98, 121, 116, 101, 115, 32, 111, 102, 32, 110, 111, 32, 101, 110, 116, 114, 121]⟩, .int .i64 70]
      have kf2 : Blk W11 (w9.drewN n).heap.size 104 #[.string ⟨#[98, 121, 116, 101, 115, 32, 111, 102, 32, 110, 111, 32, 101, 110, 116, 114, 121]⟩, .int .i64 70] := (fh11 _ (by have := KX9.out.lt; show w9.heap.size ≠ w.heap.size; omega)).trans kf
      exact kf2.cell 1
    have BF := Lib.hid (fb11 _ w (Nat.le_refl _) (bal (below_drewN B9.out n) _))
    have KF := Lib.hid k11
    have HF := Lib.hid hfa
    clear k11 fb11 fh11 fs11 hfa
    go_wp2_with fail
    refine bodyPost_ret (v := .tuple #[.agg #[.int .i8 0, .int .i64 0, .int .i64 0, .int .i64 0, .int .i64 0, .int .i64 0, .bool false, .int .i64 0, .int .i8 0, .int .i64 0, .int .i64 0, .int .i64 0, .int .i64 0, .slice none 0 0, .slice none 0 0, .int .i64 0, .int .i64 0], .iface 102 (.pointer (some ⟨w9.heap.size, 0, none⟩))]) (mlread_ret #[.int .i8 0, .int .i64 0, .int .i64 0, .int .i64 0, .int .i64 0, .int .i64 0, .bool false, .int .i64 0, .int .i8 0, .int .i64 0, .int .i64 0, .int .i64 0, .int .i64 0, .slice none 0 0, .slice none 0 0, .int .i64 0, .int .i64 0] _ _ w.heap.size _ rfl rfl KF.out rfl) rfl ?_
    rw [HR7.out]
    exact .inr ⟨rfl, rfl, _, rfl, HF.out, BF.out⟩
  · have he : endOf s.size j2 b2 = 0 := if_neg hE
    rw [he] at E1
    have HE := Lib.hid hE
    clear hE he
    go_wp2_with fail
    refine E1.out.mono ?_
    rintro e w10 ⟨rfl, n, rfl⟩
    have bn : Below w9.heap.size w9 (w9.drewN n) := below_drewN (Below.refl _ _) n
    have K10 := Lib.hid (K9.out.drewN n)
    have l10 := mt_load (P := Tryz.prog) K10.out
    have hcr : CoR (w9.drewN n) (w9.drewN n).heap.size (mtOf kd y).c none D := ⟨by rw [HPS.out]; exact Reads.none_, (RD9.out.below bn).more bn.size, by rw [HPS.out]; exact Nat.zero_le _, by have := HQS.out; omega⟩
    have HCR := Lib.hid hcr
    have MY := Lib.hid (mMay_all (mtOf kd y) none D 0 e' (w9.drewN n).heap.size (w9.drewN n) hcr (Nat.le_refl _))
    have B10 := Lib.hid (below_drewN B9.out n)
    have KX10 := Lib.hid (KX9.out.drewN n)
    obtain ⟨W10, hW10⟩ : ∃ W10, W10 = w9.drewN n := ⟨_, rfl⟩
    rw [← hW10] at K10 l10 HCR MY B10 KX10 ⊢
    have HLT := Lib.hid (show w.heap.size < w9.heap.size ∧ w9.heap.size ≤ W10.heap.size from ⟨KX9.out.lt, by rw [hW10]; exact bn.size⟩)
    clear z0 hcr hW10 bn
    cases hmy : mayM (mtOf kd y)
    · rw [hmy] at MY
      have hrr : readM 7 6 (lb s) = (MtNil, 70) := by rw [HRR.out, if_pos (.inr (.inr hmy))]
      have HR7 := Lib.hid hrr
      clear hrr hmy
      go_wp2_with fail
      refine MY.out.mono ?_
      rintro e w11 ⟨rfl, b11⟩
      have KX11 := KX10.out.below b11 KX10.out.lt
      obtain ⟨W12, st12, k12, fb12, fh12, fs12⟩ := bk_store (P := Tryz.prog) (ty := 42) (cs := #[.int .i8 0, .int .i64 0, .int .i64 0, .int .i64 0, .int .i64 0, .int .i64 0, .bool false, .int .i64 0, .int .i8 0, .int .i64 0, .int .i64 0, .int .i64 0, .int .i64 0, .slice none 0 0, .slice none 0 0, .int .i64 0, .int .i64 0]) 17 (KX11.alloc (.cells #[.string ⟨#[98, 121, 116, 101, 115, 32, 111, 102, 32, 110, 111, 32, 101, 110, 116, 114, 121]⟩, .int .i64 70] 104)) infoMt rfl rfl (by simp [Value.oneCell'])
      have hfa : W12.cell? ⟨w11.heap.size, 1, none⟩ = some (.int .i64 70) := by
        have kf := Blk.new w11 104 #[.string ⟨#[98, 121, 116, 101, 115, 32, 111, 102, 32, 110, 111, 32, 101, 110, 116, 114, 121]⟩, .int .i64 70]
        have kf2 : Blk W12 w11.heap.size 104 #[.string ⟨#[98, 121, 116, 101, 115, 32, 111, 102, 32, 110, 111, 32, 101, 110, 116, 114, 121]⟩, .int .i64 70] := (fh12 _ (by have := KX11.lt; omega)).trans kf
        exact kf2.cell 1
      have BF := Lib.hid (fb12 _ w (Nat.le_refl _) (bal (B10.out.trans (b11.mono B10.out.size)) _))
      have KF := Lib.hid k12
      have HF := Lib.hid hfa
      clear k12 fb12 fh12 fs12 hfa l10 b11 KX11
      go_wp2_with fail
      refine bodyPost_ret (v := .tuple #[.agg #[.int .i8 0, .int .i64 0, .int .i64 0, .int .i64 0, .int .i64 0, .int .i64 0, .bool false, .int .i64 0, .int .i8 0, .int .i64 0, .int .i64 0, .int .i64 0, .int .i64 0, .slice none 0 0, .slice none 0 0, .int .i64 0, .int .i64 0], .iface 102 (.pointer (some ⟨w11.heap.size, 0, none⟩))]) (mlread_ret #[.int .i8 0, .int .i64 0, .int .i64 0, .int .i64 0, .int .i64 0, .int .i64 0, .bool false, .int .i64 0, .int .i8 0, .int .i64 0, .int .i64 0, .int .i64 0, .int .i64 0, .slice none 0 0, .slice none 0 0, .int .i64 0, .int .i64 0] _ _ w.heap.size _ rfl rfl KF.out rfl) rfl ?_
      rw [HR7.out]
      exact .inr ⟨rfl, rfl, _, rfl, HF.out, BF.out⟩
    · rw [hmy] at MY
      have hrr : readM 7 6 (lb s) = (mtOf kd y, 0) := by
        rw [HRR.out, if_neg]
        rintro (h | h | h)
        · exact HE.out (.inl h)
        · exact HE.out (.inr h)
        · rw [hmy] at h; cases h
      have HR7 := Lib.hid hrr
      clear hrr hmy
      go_wp2_with fail
      refine MY.out.mono ?_
      rintro e w11 ⟨rfl, b11⟩
      have l11 := mt_load (P := Tryz.prog) (K10.out.below b11 K10.out.lt)
      obtain ⟨W12, st12, k12, fb12, fh12, fs12⟩ := bk_store (P := Tryz.prog) (ty := 42) (cs := mtX (mtOf kd y) none D 0 e') 17 (KX10.out.below b11 KX10.out.lt) infoMt rfl (mtX_size ..) (mtX_one ..)
      have BF := Lib.hid (fb12 _ w (Nat.le_refl _) (B10.out.trans (b11.mono B10.out.size)))
      have KF := Lib.hid k12
      have HC2 := Lib.hid (coR_hold (HCR.out.up b11) (fun ad h0 hd => by have := OF9.out ad h0 hd; have := HW7.out; omega) fh12 fs12)
      clear k12 fb12 fh12 fs12 l10 b11
      go_wp2_with fail
      refine bodyPost_ret (v := .tuple #[.agg (mtX (mtOf kd y) none D 0 e'), .nilIface]) (mlread_ret (mtX (mtOf kd y) none D 0 e') _ _ w.heap.size _ rfl rfl KF.out (mtX_size ..)) rfl ?_
      rw [HR7.out]
      exact .inl ⟨rfl, D, e', rfl, HC2.out, BF.out, fun ad h0 hd => by have := OF9.out ad h0 hd; have := HW7.out; omega⟩
end
end Go.Proofs.YtbpkckahonmpkaaGreatDoor
namespace Go.Proofs.YtbpkckahonmpkaaGreatDoor
open Go.RowKit
def RdP (x : Mt) (n : Int) (w : World) (e : Ending) (w' : World) : Prop := ∃ D e', e = .returned (.tuple #[.agg (mtX x none D 0 e'), .int .i64 n]) ∧ CoR w' w'.heap.size x.c none D ∧ Below w.heap.size w w'
theorem MrP.one {x : Mt} {n : Int} {w w' : World} {e : Ending} (h : MrP x n w e w') (hg : HasET w) : ∃ v D e', e = .returned (.tuple #[.agg (mtX x none D 0 e'), v]) ∧ CoR w' w'.heap.size x.c none D ∧ Below w.heap.size w w' ∧ (∀ ad, 0 < x.c.qs.length → D = some ad → w.heap.size ≤ ad.block) ∧ ∀ W, Below w'.heap.size w' W → Calls Tryz.prog 40 #[v] W fun e W' => e = .returned (.int .i64 n) ∧ Below W.heap.size W W' := by
  rcases h with ⟨rfl, D, e', h1, h2, h3, h4⟩ | ⟨rfl, rfl, b, h1, h2, h3⟩
  · exact ⟨_, D, e', h1, h2, h3, h4, fun W _ => mlcode_nil W⟩
  · exact ⟨_, none, 0, h1, co0_R _ _, h3, fun _ _ hd => (by cases hd), fun W hW => mlcode_fault b 70 W (hg.up (h3.trans (hW.mono h3.size))) ((hW.cell (p := ⟨b, 1, none⟩) (cell_lt h2)).trans h2)⟩
section
attribute [-go_sem] loadCells storeVar
set_option maxRecDepth 100000 in
set_option maxHeartbeats 4000000 in
theorem mlRead_any (s : ByteArray) (w : World) (hg : HasET w) (hl : s.size ≤ 100000) :
    Calls Tryz.prog 26 #[.string s] w (RdP (readM 7 6 (lb s)).1 (readM 7 6 (lb s)).2 w) := by
  generalize hx : (readM 7 6 (lb s)).1 = x
  generalize hn : (readM 7 6 (lb s)).2 = n
  obtain ⟨W0, hW0⟩ : ∃ W0, W0 = w.alloc (.cells #[.int .i8 0, .int .i64 0, .int .i64 0, .int .i64 0, .int .i64 0, .int .i64 0, .bool false, .int .i64 0, .int .i8 0, .int .i64 0, .int .i64 0, .int .i64 0, .int .i64 0, .slice none 0 0, .slice none 0 0, .int .i64 0, .int .i64 0] 42) := ⟨_, rfl⟩
  have B0 : Below w.heap.size w W0 := by rw [hW0]; exact bal (Below.refl _ _) _
  have K0 : Blk W0 w.heap.size 42 #[.int .i8 0, .int .i64 0, .int .i64 0, .int .i64 0, .int .i64 0, .int .i64 0, .bool false, .int .i64 0, .int .i8 0, .int .i64 0, .int .i64 0, .int .i64 0, .int .i64 0, .slice none 0 0, .slice none 0 0, .int .i64 0, .int .i64 0] := by rw [hW0]; exact Blk.new w 42 _
  have RA := mlread_any s W0 (hg.up B0) hl
  rw [hx, hn] at RA
  have RA := Lib.hid RA
  have HG := Lib.hid (hg.up B0)
  have HB := Lib.hid B0
  have HK := Lib.hid K0
  have HW := Lib.hid hW0
  clear hW0 B0 K0 hg hl hx hn
  go_enter Tryz.func26, Tryz.ntmps26
  go_upto_region 1 with (fail)
  rw [← HW.out]
  go_wp2_with fail
  refine RA.out.mono ?_
  intro e w1 hr
  obtain ⟨v, D, e', rfl, hc1, b1, hoff, hcode⟩ := hr.one HG.out
  obtain ⟨W2, st2, k2, b2, s2⟩ := bk_fresh (P := Tryz.prog) w1 42 #[.int .i8 0, .int .i64 0, .int .i64 0, .int .i64 0, .int .i64 0, .int .i64 0, .bool false, .int .i64 0, .int .i8 0, .int .i64 0, .int .i64 0, .int .i64 0, .int .i64 0, .slice none 0 0, .slice none 0 0, .int .i64 0, .int .i64 0] (mtX x none D 0 e') 17 infoMt rfl (mtX_size ..) (mtX_one ..)
  have HC := Lib.hid (hc1.up b2)
  have B2 := Lib.hid (HB.out.trans ((b1.trans (b2.mono b1.size)).mono HB.out.size))
  have K2 := Lib.hid k2.drew
  have KX := Lib.hid (((HK.out.below b1 HK.out.lt).below b2 (by have := HK.out.lt; have := b1.size; omega)).drew)
  have hne : ¬ w1.heap.size = w.heap.size := by have := HK.out.lt; have := b1.size; omega
  have HNE := Lib.hid hne
  have HOFF := Lib.hid (show ∀ ad, 0 < x.c.qs.length → D = some ad → ad.block ≠ w.heap.size from fun ad h0 hd => by have := hoff ad h0 hd; have := HK.out.lt; omega)
  have MC := Lib.hid (hcode W2.drew (b2.trans (Below.refl _ _).drew))
  have l2 := mt_load (P := Tryz.prog) K2.out
  clear hr hc1 b1 hoff hcode k2 b2 s2 hne
  go_wp2_with fail
  go_region_held3 (fun W => (loadCells ⟨w1.heap.size, 0, none⟩ 17).run Tryz.prog W = .ok (mtX x none D 0 e') W)
    (first | exact l2 | exact l3 | exact l4)
    (first | (go_at_call 40; refine MC.out.mono ?_; rintro e w3 ⟨rfl, b3⟩; have k3 := K2.out.below b3 K2.out.lt; have l3 := mt_load (P := Tryz.prog) k3; obtain ⟨W4, st4, k4, fb4, fh4, fs4⟩ := bk_store (P := Tryz.prog) (ty := 42) (cs := mtX x none D 0 e') 17 (KX.out.below b3 KX.out.lt) infoMt rfl (mtX_size ..) (mtX_one ..); have l4 := mt_load (P := Tryz.prog) ((fh4 _ HNE.out).trans k3); have K4 := Lib.hid k4; have BF := Lib.hid (fb4 _ w (Nat.le_refl _) (B2.out.drew.trans (b3.mono B2.out.drew.size))); have HC2 := Lib.hid (coR_hold (HC.out.up ((Below.refl _ _).drew.trans (b3.mono (Nat.le_refl _)))) HOFF.out fh4 fs4); clear k3 k4 fb4 fh4 fs4 b3))
  all_goals
    go_wp2_with fail
    refine bodyPost_ret (v := .tuple #[.agg (mtX x none D 0 e'), .int .i64 n]) (mlRead_ret (mtX x none D 0 e') _ _ w.heap.size _ rfl rfl K4.out (mtX_size ..)) rfl ?_
    exact ⟨D, e', rfl, HC2.out, BF.out⟩
end
end Go.Proofs.YtbpkckahonmpkaaGreatDoor
