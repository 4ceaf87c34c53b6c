/-
  Layer 2, writing: flags; how long a text is.
  Layer 19: metalog's reader: all fields of a kind.
  Layer 2, writing: numbers, texts, flags behind bytes; of the program and of the document.
-/
import Derived.Test.YtbpkckahonmpkaaGreatDoorMlReadsProofP09
import Derived.Lib.AppendStr
import Derived.Lib.AppendZeros
import Derived.LoopN
import Derived.Outline
set_option linter.unusedVariables false
set_option linter.unusedSimpArgs false
namespace Go.Proofs.YtbpkckahonmpkaaGreatDoor
open Go.RowKit
theorem rmnone (g b : Nat) (cs : Array Value) (s : ByteArray) (i : Nat) (bad : Bool) (w : World) (h : ROk w g s i bad) (hE : Blk w b 42 cs) :
    Calls Tryz.prog 98 #[.agg #[.iface 128 (.agg #[.pointer (some ⟨g, 0, none⟩)]), .pointer (some ⟨b, 0, none⟩)]] w (RmE g b 42 cs s i bad w) := by
  have R := Lib.hid (show RmE g b 42 cs s i bad w (.returned (.tuple #[])) (w.alloc (.cells #[.iface 128 (.agg #[.pointer (some ⟨g, 0, none⟩)]), .pointer (some ⟨b, 0, none⟩)] 114)) from ⟨rfl, rok_alloc h _, hE.alloc _, (Only.refl _ _).alloc _⟩)
  clear h hE
  go_enter Tryz.func98, Tryz.ntmps98
  go_wp2_with fail
  go_end0
  exact R.out
theorem info8R : (Tryz.prog.info? 140).map (·.size) = some 8 := by kernel_rfl
attribute [-go_sem] loadCells storeVar
set_option maxRecDepth 100000 in
set_option maxHeartbeats 4000000 in
theorem rmall_0 (g b : Nat) (s : ByteArray) (i j : Nat) (bad b' : Bool) (y : Mb) (w : World) (h : ROk w g s i bad) (hE : Blk w b 42 (mtX (Mt0 0) none none 0 0)) (hbg : b ≠ g) (hbe : b ≠ 0) (hz : rM 6 0 (lb s) i bad = (y, j, b')) :
    Calls Tryz.prog 68 #[.agg #[.iface 128 (.agg #[.pointer (some ⟨g, 0, none⟩)]), .pointer (some ⟨b, 0, none⟩)]] w (RsP g b (mtOf 0 y) s j b' w) := by
  have e : (y, j, b') = (Mb0, i, bad) := by
    rw [← hz, show rM 6 0 = rM0 from rfl]
    simp only [rM0, rdMap]
  injection e with e1 e2
  injection e2 with e2 e3
  have e2 := e2.symm
  have e3 := e3.symm
  subst e1; subst e2; subst e3
  obtain ⟨W0, hW0⟩ : ∃ W0, W0 = w.alloc (.cells #[.iface 128 (.agg #[.pointer (some ⟨g, 0, none⟩)]), .pointer (some ⟨b, 0, none⟩)] 114) := ⟨_, rfl⟩
  have kf0 : Blk W0 w.heap.size 114 #[.iface 128 (.agg #[.pointer (some ⟨g, 0, none⟩)]), .pointer (some ⟨b, 0, none⟩)] := by rw [hW0]; exact Blk.new w 114 #[.iface 128 (.agg #[.pointer (some ⟨g, 0, none⟩)]), .pointer (some ⟨b, 0, none⟩)]
  have hs0 : ROk W0 g s i bad := by rw [hW0]; exact rok_alloc h _
  have ke0 : Blk W0 b 42 (mtX (Mt0 0) none none 0 0) := by rw [hW0]; exact hE.alloc _
  have ho0 : Only (fun x => x = g ∨ x = b) w W0 := by rw [hW0]; exact (Only.refl _ _).alloc _
  obtain ⟨W1, st1, k1, bl1, s1⟩ := bk_fresh (P := Tryz.prog) W0 140 #[.nilFunc, .nilFunc, .nilFunc, .nilFunc, .nilFunc, .nilFunc, .nilFunc, .nilFunc] #[.func (.func 98) #[] #[], .func (.func 99) #[] #[], .func (.func 100) #[] #[], .func (.func 101) #[] #[], .func (.func 102) #[] #[], .func (.func 103) #[] #[], .func (.func 104) #[] #[], .func (.func 105) #[] #[]] 8 info8R rfl rfl (by simp [Value.oneCell'])
  have HW := Lib.hid hW0
  have HS := Lib.hid (RdOk.drew (rok_below hs0 bl1))
  have KE := Lib.hid ((ke0.below bl1 ke0.lt).drew)
  have HO := Lib.hid ((ho0.trans (Only.of_below _ bl1)).drew)
  have kf := kf0.below bl1 kf0.lt
  have KF := Lib.hid kf.drew
  have HBG := Lib.hid (And.intro hbg hbe)
  have x0 : W1.cell? ⟨b, 0, none⟩ = some (.int .i8 0) := mt_cell (ke0.below bl1 ke0.lt) (j := 0) rfl
  have x1 : W1.cell? ⟨w.heap.size, 1, none⟩ = some (.pointer (some ⟨b, 0, none⟩)) := kf.cell 1
  have x2 : W1.drew.cell? ⟨W0.heap.size, 0, none⟩ = some (.func (.func 98) #[] #[]) := k1.drew.cell 0
  have x3 := bk_load (P := Tryz.prog) 2 KF.out rfl
  have NM := Lib.hid (rmnone g b (mtX (Mt0 0) none none 0 0) s i bad W1.drew HS.out KE.out)
  clear hW0 kf0 hs0 ke0 ho0 k1 bl1 s1 kf h hE hbg hbe hz 
  go_enter Tryz.func68, Tryz.ntmps68
  go_upto_region 1 with (fail)
  rw [← HW.out]
  go_wp2_with fail
  refine wp_region_qtail 4 (by kernel_rfl) (by kernel_rfl) ?_
  simp only [List.take_succ_cons, List.take_zero, List.drop_succ_cons, List.drop_zero]
  repeat (go_big_quiet_step (fail))
  refine wpQuiet_nil ?_
  go_wp2_with fail
  refine NM.out.mono ?_
  rintro e w2 ⟨rfl, hs, hk, ho⟩
  have HR := Lib.hid (show RsP g b (mtOf 0 Mb0) s i bad w (.returned (.tuple #[])) w2 from ⟨rfl, hs, ⟨none, 0, hk, Reads.none_, fun _ h => absurd h (Nat.lt_irrefl 0)⟩, HO.out.trans ho⟩)
  clear hs hk ho
  go_wp2_with fail
  go_end0
  exact HR.out
set_option maxRecDepth 100000 in
set_option maxHeartbeats 4000000 in
theorem rmall_1 (g b : Nat) (s : ByteArray) (i j : Nat) (bad b' : Bool) (y : Mb) (w : World) (h : ROk w g s i bad) (hE : Blk w b 42 (mtX (Mt0 1) none none 0 0)) (hbg : b ≠ g) (hbe : b ≠ 0) (hz : rM 6 1 (lb s) i bad = (y, j, b')) :
    Calls Tryz.prog 68 #[.agg #[.iface 128 (.agg #[.pointer (some ⟨g, 0, none⟩)]), .pointer (some ⟨b, 0, none⟩)]] w (RsP g b (mtOf 1 y) s j b' w) := by
  obtain ⟨v1, j1, b1, hz1⟩ : ∃ v j b, rdNum (lb s) i bad 0 2 = (v, j, b) := ⟨_, _, _, rfl⟩
  obtain ⟨v2, j2, b2, hz2⟩ : ∃ v j b, rdNum (lb s) j1 b1 1 20 = (v, j, b) := ⟨_, _, _, rfl⟩
  have e : (y, j, b') = ((v1, v2, Pd0, false, 0, Co0, 0), j2, b2) := by
    rw [← hz, show rM 6 1 = rM1 from rfl]
    have hy1 : rdNum (lb s) i bad ((0 : Nat) : Int) ((2 : Nat) : Int) = (v1, j1, b1) := hz1
    have hy2 : rdNum (lb s) j1 b1 ((1 : Nat) : Int) ((20 : Nat) : Int) = (v2, j2, b2) := hz2
    simp only [rM1, rdMap, rdBind, rI, hy1, hy2]
  injection e with e1 e2
  injection e2 with e2 e3
  have e2 := e2.symm
  have e3 := e3.symm
  subst e1; subst e2; subst e3
  obtain ⟨W0, hW0⟩ : ∃ W0, W0 = w.alloc (.cells #[.iface 128 (.agg #[.pointer (some ⟨g, 0, none⟩)]), .pointer (some ⟨b, 0, none⟩)] 114) := ⟨_, rfl⟩
  have kf0 : Blk W0 w.heap.size 114 #[.iface 128 (.agg #[.pointer (some ⟨g, 0, none⟩)]), .pointer (some ⟨b, 0, none⟩)] := by rw [hW0]; exact Blk.new w 114 #[.iface 128 (.agg #[.pointer (some ⟨g, 0, none⟩)]), .pointer (some ⟨b, 0, none⟩)]
  have hs0 : ROk W0 g s i bad := by rw [hW0]; exact rok_alloc h _
  have ke0 : Blk W0 b 42 (mtX (Mt0 1) none none 0 0) := by rw [hW0]; exact hE.alloc _
  have ho0 : Only (fun x => x = g ∨ x = b) w W0 := by rw [hW0]; exact (Only.refl _ _).alloc _
  obtain ⟨W1, st1, k1, bl1, s1⟩ := bk_fresh (P := Tryz.prog) W0 140 #[.nilFunc, .nilFunc, .nilFunc, .nilFunc, .nilFunc, .nilFunc, .nilFunc, .nilFunc] #[.func (.func 98) #[] #[], .func (.func 99) #[] #[], .func (.func 100) #[] #[], .func (.func 101) #[] #[], .func (.func 102) #[] #[], .func (.func 103) #[] #[], .func (.func 104) #[] #[], .func (.func 105) #[] #[]] 8 info8R rfl rfl (by simp [Value.oneCell'])
  have HW := Lib.hid hW0
  have HS := Lib.hid (RdOk.drew (rok_below hs0 bl1))
  have KE := Lib.hid ((ke0.below bl1 ke0.lt).drew)
  have HO := Lib.hid ((ho0.trans (Only.of_below _ bl1)).drew)
  have kf := kf0.below bl1 kf0.lt
  have KF := Lib.hid kf.drew
  have HBG := Lib.hid (And.intro hbg hbe)
  have x0 : W1.cell? ⟨b, 0, none⟩ = some (.int .i8 1) := mt_cell (ke0.below bl1 ke0.lt) (j := 0) rfl
  have x1 : W1.cell? ⟨w.heap.size, 1, none⟩ = some (.pointer (some ⟨b, 0, none⟩)) := kf.cell 1
  have x2 : W1.drew.cell? ⟨W0.heap.size, 1, none⟩ = some (.func (.func 99) #[] #[]) := k1.drew.cell 1
  have x3 := bk_load (P := Tryz.prog) 2 KF.out rfl
  have NM := Lib.hid (rmbegin g b (Mt0 1) none none 0 0 s i bad hz1 hz2 W1.drew HS.out KE.out HBG.out.1 HBG.out.2)
  clear hW0 kf0 hs0 ke0 ho0 k1 bl1 s1 kf h hE hbg hbe hz hz1 hz2
  go_enter Tryz.func68, Tryz.ntmps68
  go_upto_region 1 with (fail)
  rw [← HW.out]
  go_wp2_with fail
  refine wp_region_qtail 4 (by kernel_rfl) (by kernel_rfl) ?_
  simp only [List.take_succ_cons, List.take_zero, List.drop_succ_cons, List.drop_zero]
  repeat (go_big_quiet_step (fail))
  refine wpQuiet_nil ?_
  go_wp2_with fail
  refine NM.out.mono ?_
  rintro e w2 ⟨rfl, hs, hk, ho⟩
  have HR := Lib.hid (show RsP g b (mtOf 1 (v1, v2, Pd0, false, 0, Co0, 0)) s j2 b2 w (.returned (.tuple #[])) w2 from ⟨rfl, hs, ⟨none, 0, hk, Reads.none_, fun _ h => absurd h (Nat.lt_irrefl 0)⟩, HO.out.trans ho⟩)
  clear hs hk ho
  go_wp2_with fail
  go_end0
  exact HR.out
set_option maxRecDepth 100000 in
set_option maxHeartbeats 4000000 in
theorem rmall_2 (g b : Nat) (s : ByteArray) (i j : Nat) (bad b' : Bool) (y : Mb) (w : World) (h : ROk w g s i bad) (hE : Blk w b 42 (mtX (Mt0 2) none none 0 0)) (hbg : b ≠ g) (hbe : b ≠ 0) (hz : rM 6 2 (lb s) i bad = (y, j, b')) :
    Calls Tryz.prog 68 #[.agg #[.iface 128 (.agg #[.pointer (some ⟨g, 0, none⟩)]), .pointer (some ⟨b, 0, none⟩)]] w (RsP g b (mtOf 2 y) s j b' w) := by
  obtain ⟨v1, j1, b1, hz1⟩ : ∃ v j b, rdNum (lb s) i bad 0 2 = (v, j, b) := ⟨_, _, _, rfl⟩
  obtain ⟨v2, j2, b2, hz2⟩ : ∃ v j b, rdNum (lb s) j1 b1 0 1 = (v, j, b) := ⟨_, _, _, rfl⟩
  obtain ⟨v3, j3, b3, hz3⟩ : ∃ v j b, rdNum (lb s) j2 b2 0 2 = (v, j, b) := ⟨_, _, _, rfl⟩
  obtain ⟨v4, j4, b4, hz4⟩ : ∃ v j b, rdNum (lb s) j3 b3 0 1048576 = (v, j, b) := ⟨_, _, _, rfl⟩
  have e : (y, j, b') = ((v1, 0, (v2, v3, v4), false, 0, Co0, 0), j4, b4) := by
    rw [← hz, show rM 6 2 = rM2 from rfl]
    have hy1 : rdNum (lb s) i bad ((0 : Nat) : Int) ((2 : Nat) : Int) = (v1, j1, b1) := hz1
    have hy2 : rdNum (lb s) j1 b1 ((0 : Nat) : Int) ((1 : Nat) : Int) = (v2, j2, b2) := hz2
    have hy3 : rdNum (lb s) j2 b2 ((0 : Nat) : Int) ((2 : Nat) : Int) = (v3, j3, b3) := hz3
    have hy4 : rdNum (lb s) j3 b3 ((0 : Nat) : Int) ((1048576 : Nat) : Int) = (v4, j4, b4) := hz4
    simp only [rM2, rdMap, rdBind, rI, rdPn, hy1, hy2, hy3, hy4]
  injection e with e1 e2
  injection e2 with e2 e3
  have e2 := e2.symm
  have e3 := e3.symm
  subst e1; subst e2; subst e3
  obtain ⟨W0, hW0⟩ : ∃ W0, W0 = w.alloc (.cells #[.iface 128 (.agg #[.pointer (some ⟨g, 0, none⟩)]), .pointer (some ⟨b, 0, none⟩)] 114) := ⟨_, rfl⟩
  have kf0 : Blk W0 w.heap.size 114 #[.iface 128 (.agg #[.pointer (some ⟨g, 0, none⟩)]), .pointer (some ⟨b, 0, none⟩)] := by rw [hW0]; exact Blk.new w 114 #[.iface 128 (.agg #[.pointer (some ⟨g, 0, none⟩)]), .pointer (some ⟨b, 0, none⟩)]
  have hs0 : ROk W0 g s i bad := by rw [hW0]; exact rok_alloc h _
  have ke0 : Blk W0 b 42 (mtX (Mt0 2) none none 0 0) := by rw [hW0]; exact hE.alloc _
  have ho0 : Only (fun x => x = g ∨ x = b) w W0 := by rw [hW0]; exact (Only.refl _ _).alloc _
  obtain ⟨W1, st1, k1, bl1, s1⟩ := bk_fresh (P := Tryz.prog) W0 140 #[.nilFunc, .nilFunc, .nilFunc, .nilFunc, .nilFunc, .nilFunc, .nilFunc, .nilFunc] #[.func (.func 98) #[] #[], .func (.func 99) #[] #[], .func (.func 100) #[] #[], .func (.func 101) #[] #[], .func (.func 102) #[] #[], .func (.func 103) #[] #[], .func (.func 104) #[] #[], .func (.func 105) #[] #[]] 8 info8R rfl rfl (by simp [Value.oneCell'])
  have HW := Lib.hid hW0
  have HS := Lib.hid (RdOk.drew (rok_below hs0 bl1))
  have KE := Lib.hid ((ke0.below bl1 ke0.lt).drew)
  have HO := Lib.hid ((ho0.trans (Only.of_below _ bl1)).drew)
  have kf := kf0.below bl1 kf0.lt
  have KF := Lib.hid kf.drew
  have HBG := Lib.hid (And.intro hbg hbe)
  have x0 : W1.cell? ⟨b, 0, none⟩ = some (.int .i8 2) := mt_cell (ke0.below bl1 ke0.lt) (j := 0) rfl
  have x1 : W1.cell? ⟨w.heap.size, 1, none⟩ = some (.pointer (some ⟨b, 0, none⟩)) := kf.cell 1
  have x2 : W1.drew.cell? ⟨W0.heap.size, 2, none⟩ = some (.func (.func 100) #[] #[]) := k1.drew.cell 2
  have x3 := bk_load (P := Tryz.prog) 2 KF.out rfl
  have NM := Lib.hid (rmoffset g b (Mt0 2) none none 0 0 s i bad hz1 hz2 hz3 hz4 W1.drew HS.out KE.out HBG.out.1 HBG.out.2)
  clear hW0 kf0 hs0 ke0 ho0 k1 bl1 s1 kf h hE hbg hbe hz hz1 hz2 hz3 hz4
  go_enter Tryz.func68, Tryz.ntmps68
  go_upto_region 1 with (fail)
  rw [← HW.out]
  go_wp2_with fail
  refine wp_region_qtail 4 (by kernel_rfl) (by kernel_rfl) ?_
  simp only [List.take_succ_cons, List.take_zero, List.drop_succ_cons, List.drop_zero]
  repeat (go_big_quiet_step (fail))
  refine wpQuiet_nil ?_
  go_wp2_with fail
  refine NM.out.mono ?_
  rintro e w2 ⟨rfl, hs, hk, ho⟩
  have HR := Lib.hid (show RsP g b (mtOf 2 (v1, 0, (v2, v3, v4), false, 0, Co0, 0)) s j4 b4 w (.returned (.tuple #[])) w2 from ⟨rfl, hs, ⟨none, 0, hk, Reads.none_, fun _ h => absurd h (Nat.lt_irrefl 0)⟩, HO.out.trans ho⟩)
  clear hs hk ho
  go_wp2_with fail
  go_end0
  exact HR.out
set_option maxRecDepth 100000 in
set_option maxHeartbeats 4000000 in
theorem rmall_3 (g b : Nat) (s : ByteArray) (i j : Nat) (bad b' : Bool) (y : Mb) (w : World) (h : ROk w g s i bad) (hE : Blk w b 42 (mtX (Mt0 3) none none 0 0)) (hbg : b ≠ g) (hbe : b ≠ 0) (hz : rM 6 3 (lb s) i bad = (y, j, b')) :
    Calls Tryz.prog 68 #[.agg #[.iface 128 (.agg #[.pointer (some ⟨g, 0, none⟩)]), .pointer (some ⟨b, 0, none⟩)]] w (RsP g b (mtOf 3 y) s j b' w) := by
  obtain ⟨v1, j1, b1, hz1⟩ : ∃ v j b, rdNum (lb s) i bad 0 2 = (v, j, b) := ⟨_, _, _, rfl⟩
  obtain ⟨v2, j2, b2, hz2⟩ : ∃ v j b, rdFlag (lb s) j1 b1 = (v, j, b) := ⟨_, _, _, rfl⟩
  obtain ⟨v3, j3, b3, hz3⟩ : ∃ v j b, rdNum (lb s) j2 b2 0 20 = (v, j, b) := ⟨_, _, _, rfl⟩
  have e : (y, j, b') = ((v1, 0, Pd0, v2, v3, Co0, 0), j3, b3) := by
    rw [← hz, show rM 6 3 = rM3 from rfl]
    have hy1 : rdNum (lb s) i bad ((0 : Nat) : Int) ((2 : Nat) : Int) = (v1, j1, b1) := hz1
    have hy3 : rdNum (lb s) j2 b2 ((0 : Nat) : Int) ((20 : Nat) : Int) = (v3, j3, b3) := hz3
    simp only [rM3, rdMap, rdBind, rI, hy1, hz2, hy3]
  injection e with e1 e2
  injection e2 with e2 e3
  have e2 := e2.symm
  have e3 := e3.symm
  subst e1; subst e2; subst e3
  obtain ⟨W0, hW0⟩ : ∃ W0, W0 = w.alloc (.cells #[.iface 128 (.agg #[.pointer (some ⟨g, 0, none⟩)]), .pointer (some ⟨b, 0, none⟩)] 114) := ⟨_, rfl⟩
  have kf0 : Blk W0 w.heap.size 114 #[.iface 128 (.agg #[.pointer (some ⟨g, 0, none⟩)]), .pointer (some ⟨b, 0, none⟩)] := by rw [hW0]; exact Blk.new w 114 #[.iface 128 (.agg #[.pointer (some ⟨g, 0, none⟩)]), .pointer (some ⟨b, 0, none⟩)]
  have hs0 : ROk W0 g s i bad := by rw [hW0]; exact rok_alloc h _
  have ke0 : Blk W0 b 42 (mtX (Mt0 3) none none 0 0) := by rw [hW0]; exact hE.alloc _
  have ho0 : Only (fun x => x = g ∨ x = b) w W0 := by rw [hW0]; exact (Only.refl _ _).alloc _
  obtain ⟨W1, st1, k1, bl1, s1⟩ := bk_fresh (P := Tryz.prog) W0 140 #[.nilFunc, .nilFunc, .nilFunc, .nilFunc, .nilFunc, .nilFunc, .nilFunc, .nilFunc] #[.func (.func 98) #[] #[], .func (.func 99) #[] #[], .func (.func 100) #[] #[], .func (.func 101) #[] #[], .func (.func 102) #[] #[], .func (.func 103) #[] #[], .func (.func 104) #[] #[], .func (.func 105) #[] #[]] 8 info8R rfl rfl (by simp [Value.oneCell'])
  have HW := Lib.hid hW0
  have HS := Lib.hid (RdOk.drew (rok_below hs0 bl1))
  have KE := Lib.hid ((ke0.below bl1 ke0.lt).drew)
  have HO := Lib.hid ((ho0.trans (Only.of_below _ bl1)).drew)
  have kf := kf0.below bl1 kf0.lt
  have KF := Lib.hid kf.drew
  have HBG := Lib.hid (And.intro hbg hbe)
  have x0 : W1.cell? ⟨b, 0, none⟩ = some (.int .i8 3) := mt_cell (ke0.below bl1 ke0.lt) (j := 0) rfl
  have x1 : W1.cell? ⟨w.heap.size, 1, none⟩ = some (.pointer (some ⟨b, 0, none⟩)) := kf.cell 1
  have x2 : W1.drew.cell? ⟨W0.heap.size, 3, none⟩ = some (.func (.func 101) #[] #[]) := k1.drew.cell 3
  have x3 := bk_load (P := Tryz.prog) 2 KF.out rfl
  have NM := Lib.hid (rmprep g b (Mt0 3) none none 0 0 s i bad hz1 hz2 hz3 W1.drew HS.out KE.out HBG.out.1 HBG.out.2)
  clear hW0 kf0 hs0 ke0 ho0 k1 bl1 s1 kf h hE hbg hbe hz hz1 hz2 hz3
  go_enter Tryz.func68, Tryz.ntmps68
  go_upto_region 1 with (fail)
  rw [← HW.out]
  go_wp2_with fail
  refine wp_region_qtail 4 (by kernel_rfl) (by kernel_rfl) ?_
  simp only [List.take_succ_cons, List.take_zero, List.drop_succ_cons, List.drop_zero]
  repeat (go_big_quiet_step (fail))
  refine wpQuiet_nil ?_
  go_wp2_with fail
  refine NM.out.mono ?_
  rintro e w2 ⟨rfl, hs, hk, ho⟩
  have HR := Lib.hid (show RsP g b (mtOf 3 (v1, 0, Pd0, v2, v3, Co0, 0)) s j3 b3 w (.returned (.tuple #[])) w2 from ⟨rfl, hs, ⟨none, 0, hk, Reads.none_, fun _ h => absurd h (Nat.lt_irrefl 0)⟩, HO.out.trans ho⟩)
  clear hs hk ho
  go_wp2_with fail
  go_end0
  exact HR.out
set_option maxRecDepth 100000 in
set_option maxHeartbeats 4000000 in
theorem rmall_4 (g b : Nat) (s : ByteArray) (i j : Nat) (bad b' : Bool) (y : Mb) (w : World) (h : ROk w g s i bad) (hE : Blk w b 42 (mtX (Mt0 4) none none 0 0)) (hbg : b ≠ g) (hbe : b ≠ 0) (hz : rM 6 4 (lb s) i bad = (y, j, b')) :
    Calls Tryz.prog 68 #[.agg #[.iface 128 (.agg #[.pointer (some ⟨g, 0, none⟩)]), .pointer (some ⟨b, 0, none⟩)]] w (RsP g b (mtOf 4 y) s j b' w) := by
  obtain ⟨v1, j1, b1, hz1⟩ : ∃ v j b, rdNum (lb s) i bad 0 2 = (v, j, b) := ⟨_, _, _, rfl⟩
  have e : (y, j, b') = ((v1, 0, Pd0, false, 0, Co0, 0), j1, b1) := by
    rw [← hz, show rM 6 4 = rM4 from rfl]
    have hy1 : rdNum (lb s) i bad ((0 : Nat) : Int) ((2 : Nat) : Int) = (v1, j1, b1) := hz1
    simp only [rM4, rdMap, rdBind, rI, hy1]
  injection e with e1 e2
  injection e2 with e2 e3
  have e2 := e2.symm
  have e3 := e3.symm
  subst e1; subst e2; subst e3
  obtain ⟨W0, hW0⟩ : ∃ W0, W0 = w.alloc (.cells #[.iface 128 (.agg #[.pointer (some ⟨g, 0, none⟩)]), .pointer (some ⟨b, 0, none⟩)] 114) := ⟨_, rfl⟩
  have kf0 : Blk W0 w.heap.size 114 #[.iface 128 (.agg #[.pointer (some ⟨g, 0, none⟩)]), .pointer (some ⟨b, 0, none⟩)] := by rw [hW0]; exact Blk.new w 114 #[.iface 128 (.agg #[.pointer (some ⟨g, 0, none⟩)]), .pointer (some ⟨b, 0, none⟩)]
  have hs0 : ROk W0 g s i bad := by rw [hW0]; exact rok_alloc h _
  have ke0 : Blk W0 b 42 (mtX (Mt0 4) none none 0 0) := by rw [hW0]; exact hE.alloc _
  have ho0 : Only (fun x => x = g ∨ x = b) w W0 := by rw [hW0]; exact (Only.refl _ _).alloc _
  obtain ⟨W1, st1, k1, bl1, s1⟩ := bk_fresh (P := Tryz.prog) W0 140 #[.nilFunc, .nilFunc, .nilFunc, .nilFunc, .nilFunc, .nilFunc, .nilFunc, .nilFunc] #[.func (.func 98) #[] #[], .func (.func 99) #[] #[], .func (.func 100) #[] #[], .func (.func 101) #[] #[], .func (.func 102) #[] #[], .func (.func 103) #[] #[], .func (.func 104) #[] #[], .func (.func 105) #[] #[]] 8 info8R rfl rfl (by simp [Value.oneCell'])
  have HW := Lib.hid hW0
  have HS := Lib.hid (RdOk.drew (rok_below hs0 bl1))
  have KE := Lib.hid ((ke0.below bl1 ke0.lt).drew)
  have HO := Lib.hid ((ho0.trans (Only.of_below _ bl1)).drew)
  have kf := kf0.below bl1 kf0.lt
  have KF := Lib.hid kf.drew
  have HBG := Lib.hid (And.intro hbg hbe)
  have x0 : W1.cell? ⟨b, 0, none⟩ = some (.int .i8 4) := mt_cell (ke0.below bl1 ke0.lt) (j := 0) rfl
  have x1 : W1.cell? ⟨w.heap.size, 1, none⟩ = some (.pointer (some ⟨b, 0, none⟩)) := kf.cell 1
  have x2 : W1.drew.cell? ⟨W0.heap.size, 4, none⟩ = some (.func (.func 102) #[] #[]) := k1.drew.cell 4
  have x3 := bk_load (P := Tryz.prog) 2 KF.out rfl
  have NM := Lib.hid (rmtid g b (Mt0 4) none none 0 0 s i bad hz1 W1.drew HS.out KE.out HBG.out.1 HBG.out.2)
  clear hW0 kf0 hs0 ke0 ho0 k1 bl1 s1 kf h hE hbg hbe hz hz1
  go_enter Tryz.func68, Tryz.ntmps68
  go_upto_region 1 with (fail)
  rw [← HW.out]
  go_wp2_with fail
  refine wp_region_qtail 4 (by kernel_rfl) (by kernel_rfl) ?_
  simp only [List.take_succ_cons, List.take_zero, List.drop_succ_cons, List.drop_zero]
  repeat (go_big_quiet_step (fail))
  refine wpQuiet_nil ?_
  go_wp2_with fail
  refine NM.out.mono ?_
  rintro e w2 ⟨rfl, hs, hk, ho⟩
  have HR := Lib.hid (show RsP g b (mtOf 4 (v1, 0, Pd0, false, 0, Co0, 0)) s j1 b1 w (.returned (.tuple #[])) w2 from ⟨rfl, hs, ⟨none, 0, hk, Reads.none_, fun _ h => absurd h (Nat.lt_irrefl 0)⟩, HO.out.trans ho⟩)
  clear hs hk ho
  go_wp2_with fail
  go_end0
  exact HR.out
set_option maxRecDepth 100000 in
set_option maxHeartbeats 4000000 in
theorem rmall_5 (g b : Nat) (s : ByteArray) (i j : Nat) (bad b' : Bool) (y : Mb) (w : World) (h : ROk w g s i bad) (hE : Blk w b 42 (mtX (Mt0 5) none none 0 0)) (hbg : b ≠ g) (hbe : b ≠ 0) (hz : rM 6 5 (lb s) i bad = (y, j, b')) :
    Calls Tryz.prog 68 #[.agg #[.iface 128 (.agg #[.pointer (some ⟨g, 0, none⟩)]), .pointer (some ⟨b, 0, none⟩)]] w (RsP g b (mtOf 5 y) s j b' w) := by
  obtain ⟨v1, j1, b1, hz1⟩ : ∃ v j b, rdNum (lb s) i bad 0 1 = (v, j, b) := ⟨_, _, _, rfl⟩
  obtain ⟨v2, j2, b2, hz2⟩ : ∃ v j b, rdNum (lb s) j1 b1 0 2 = (v, j, b) := ⟨_, _, _, rfl⟩
  obtain ⟨v3, j3, b3, hz3⟩ : ∃ v j b, rdNum (lb s) j2 b2 0 1048576 = (v, j, b) := ⟨_, _, _, rfl⟩
  have e : (y, j, b') = ((0, 0, (v1, v2, v3), false, 0, Co0, 0), j3, b3) := by
    rw [← hz, show rM 6 5 = rM5 from rfl]
    have hy1 : rdNum (lb s) i bad ((0 : Nat) : Int) ((1 : Nat) : Int) = (v1, j1, b1) := hz1
    have hy2 : rdNum (lb s) j1 b1 ((0 : Nat) : Int) ((2 : Nat) : Int) = (v2, j2, b2) := hz2
    have hy3 : rdNum (lb s) j2 b2 ((0 : Nat) : Int) ((1048576 : Nat) : Int) = (v3, j3, b3) := hz3
    simp only [rM5, rdMap, rdBind, rI, rdPn, hy1, hy2, hy3]
  injection e with e1 e2
  injection e2 with e2 e3
  have e2 := e2.symm
  have e3 := e3.symm
  subst e1; subst e2; subst e3
  obtain ⟨W0, hW0⟩ : ∃ W0, W0 = w.alloc (.cells #[.iface 128 (.agg #[.pointer (some ⟨g, 0, none⟩)]), .pointer (some ⟨b, 0, none⟩)] 114) := ⟨_, rfl⟩
  have kf0 : Blk W0 w.heap.size 114 #[.iface 128 (.agg #[.pointer (some ⟨g, 0, none⟩)]), .pointer (some ⟨b, 0, none⟩)] := by rw [hW0]; exact Blk.new w 114 #[.iface 128 (.agg #[.pointer (some ⟨g, 0, none⟩)]), .pointer (some ⟨b, 0, none⟩)]
  have hs0 : ROk W0 g s i bad := by rw [hW0]; exact rok_alloc h _
  have ke0 : Blk W0 b 42 (mtX (Mt0 5) none none 0 0) := by rw [hW0]; exact hE.alloc _
  have ho0 : Only (fun x => x = g ∨ x = b) w W0 := by rw [hW0]; exact (Only.refl _ _).alloc _
  obtain ⟨W1, st1, k1, bl1, s1⟩ := bk_fresh (P := Tryz.prog) W0 140 #[.nilFunc, .nilFunc, .nilFunc, .nilFunc, .nilFunc, .nilFunc, .nilFunc, .nilFunc] #[.func (.func 98) #[] #[], .func (.func 99) #[] #[], .func (.func 100) #[] #[], .func (.func 101) #[] #[], .func (.func 102) #[] #[], .func (.func 103) #[] #[], .func (.func 104) #[] #[], .func (.func 105) #[] #[]] 8 info8R rfl rfl (by simp [Value.oneCell'])
  have HW := Lib.hid hW0
  have HS := Lib.hid (RdOk.drew (rok_below hs0 bl1))
  have KE := Lib.hid ((ke0.below bl1 ke0.lt).drew)
  have HO := Lib.hid ((ho0.trans (Only.of_below _ bl1)).drew)
  have kf := kf0.below bl1 kf0.lt
  have KF := Lib.hid kf.drew
  have HBG := Lib.hid (And.intro hbg hbe)
  have x0 : W1.cell? ⟨b, 0, none⟩ = some (.int .i8 5) := mt_cell (ke0.below bl1 ke0.lt) (j := 0) rfl
  have x1 : W1.cell? ⟨w.heap.size, 1, none⟩ = some (.pointer (some ⟨b, 0, none⟩)) := kf.cell 1
  have x2 : W1.drew.cell? ⟨W0.heap.size, 5, none⟩ = some (.func (.func 103) #[] #[]) := k1.drew.cell 5
  have x3 := bk_load (P := Tryz.prog) 2 KF.out rfl
  have NM := Lib.hid (rmcommit g b (Mt0 5) none none 0 0 s i bad hz1 hz2 hz3 W1.drew HS.out KE.out HBG.out.1 HBG.out.2)
  clear hW0 kf0 hs0 ke0 ho0 k1 bl1 s1 kf h hE hbg hbe hz hz1 hz2 hz3
  go_enter Tryz.func68, Tryz.ntmps68
  go_upto_region 1 with (fail)
  rw [← HW.out]
  go_wp2_with fail
  refine wp_region_qtail 4 (by kernel_rfl) (by kernel_rfl) ?_
  simp only [List.take_succ_cons, List.take_zero, List.drop_succ_cons, List.drop_zero]
  repeat (go_big_quiet_step (fail))
  refine wpQuiet_nil ?_
  go_wp2_with fail
  refine NM.out.mono ?_
  rintro e w2 ⟨rfl, hs, hk, ho⟩
  have HR := Lib.hid (show RsP g b (mtOf 5 (0, 0, (v1, v2, v3), false, 0, Co0, 0)) s j3 b3 w (.returned (.tuple #[])) w2 from ⟨rfl, hs, ⟨none, 0, hk, Reads.none_, fun _ h => absurd h (Nat.lt_irrefl 0)⟩, HO.out.trans ho⟩)
  clear hs hk ho
  go_wp2_with fail
  go_end0
  exact HR.out
set_option maxRecDepth 100000 in
set_option maxHeartbeats 4000000 in
theorem rmall_6 (g b : Nat) (s : ByteArray) (i j : Nat) (bad b' : Bool) (y : Mb) (w : World) (h : ROk w g s i bad) (hE : Blk w b 42 (mtX (Mt0 6) none none 0 0)) (hbg : b ≠ g) (hbe : b ≠ 0) (hz : rM 6 6 (lb s) i bad = (y, j, b')) :
    Calls Tryz.prog 68 #[.agg #[.iface 128 (.agg #[.pointer (some ⟨g, 0, none⟩)]), .pointer (some ⟨b, 0, none⟩)]] w (RsP g b (mtOf 6 y) s j b' w) := by
  obtain ⟨v1, j1, b1, hz1⟩ : ∃ v j b, rdNum (lb s) i bad 0 2 = (v, j, b) := ⟨_, _, _, rfl⟩
  obtain ⟨v2, j2, b2, hz2⟩ : ∃ v j b, rdNum (lb s) j1 b1 0 6 = (v, j, b) := ⟨_, _, _, rfl⟩
  obtain ⟨v3, j3, b3, hz3⟩ : ∃ v j b, rdNum (lb s) j2 b2 0 8 = (v, j, b) := ⟨_, _, _, rfl⟩
  obtain ⟨v4, j4, b4, hz4⟩ : ∃ v j b, rdNum (lb s) j3 b3 0 100 = (v, j, b) := ⟨_, _, _, rfl⟩
  obtain ⟨v5, j5, b5, hz5⟩ : ∃ v j b, rdNum (lb s) j4 b4 0 20 = (v, j, b) := ⟨_, _, _, rfl⟩
  obtain ⟨v6, j6, b6, hz6⟩ : ∃ v j b, rdNum (lb s) j5 b5 0 20 = (v, j, b) := ⟨_, _, _, rfl⟩
  obtain ⟨v7, j7, b7, hz7⟩ : ∃ v j b, rdNum (lb s) j6 b6 0 6 = (v, j, b) := ⟨_, _, _, rfl⟩
  obtain ⟨qs, j8, b8, hz8⟩ : ∃ v j b, rdRep rdPn v7.toNat (lb s) j7 b7 = (v, j, b) := ⟨_, _, _, rfl⟩
  obtain ⟨v9, j9, b9, hz9⟩ : ∃ v j b, rdNum (lb s) j8 b8 0 1048576 = (v, j, b) := ⟨_, _, _, rfl⟩
  have e : (y, j, b') = ((v1, 0, Pd0, false, 0, ⟨v2, v3, v4, v5, v6, [], qs, v9⟩, 0), j9, b9) := by
    rw [← hz, show rM 6 6 = (rM6 6) from rfl]
    have hy1 : rdNum (lb s) i bad ((0 : Nat) : Int) ((2 : Nat) : Int) = (v1, j1, b1) := hz1
    have hy2 : rdNum (lb s) j1 b1 ((0 : Nat) : Int) ((6 : Nat) : Int) = (v2, j2, b2) := hz2
    have hy3 : rdNum (lb s) j2 b2 ((0 : Nat) : Int) ((8 : Nat) : Int) = (v3, j3, b3) := hz3
    have hy4 : rdNum (lb s) j3 b3 ((0 : Nat) : Int) ((100 : Nat) : Int) = (v4, j4, b4) := hz4
    have hy5 : rdNum (lb s) j4 b4 ((0 : Nat) : Int) ((20 : Nat) : Int) = (v5, j5, b5) := hz5
    have hy6 : rdNum (lb s) j5 b5 ((0 : Nat) : Int) ((20 : Nat) : Int) = (v6, j6, b6) := hz6
    have hy7 : rdNum (lb s) j6 b6 ((0 : Nat) : Int) ((6 : Nat) : Int) = (v7, j7, b7) := hz7
    have hy9 : rdNum (lb s) j8 b8 ((0 : Nat) : Int) ((1048576 : Nat) : Int) = (v9, j9, b9) := hz9
    simp only [rM6, rdMap, rdBind, rI, rdCo, rdCb, coOf, hy1, hy2, hy3, hy4, hy5, hy6, hy7, hz8, hy9]
  injection e with e1 e2
  injection e2 with e2 e3
  have e2 := e2.symm
  have e3 := e3.symm
  subst e1; subst e2; subst e3
  obtain ⟨W0, hW0⟩ : ∃ W0, W0 = w.alloc (.cells #[.iface 128 (.agg #[.pointer (some ⟨g, 0, none⟩)]), .pointer (some ⟨b, 0, none⟩)] 114) := ⟨_, rfl⟩
  have kf0 : Blk W0 w.heap.size 114 #[.iface 128 (.agg #[.pointer (some ⟨g, 0, none⟩)]), .pointer (some ⟨b, 0, none⟩)] := by rw [hW0]; exact Blk.new w 114 #[.iface 128 (.agg #[.pointer (some ⟨g, 0, none⟩)]), .pointer (some ⟨b, 0, none⟩)]
  have hs0 : ROk W0 g s i bad := by rw [hW0]; exact rok_alloc h _
  have ke0 : Blk W0 b 42 (mtX (Mt0 6) none none 0 0) := by rw [hW0]; exact hE.alloc _
  have ho0 : Only (fun x => x = g ∨ x = b) w W0 := by rw [hW0]; exact (Only.refl _ _).alloc _
  obtain ⟨W1, st1, k1, bl1, s1⟩ := bk_fresh (P := Tryz.prog) W0 140 #[.nilFunc, .nilFunc, .nilFunc, .nilFunc, .nilFunc, .nilFunc, .nilFunc, .nilFunc] #[.func (.func 98) #[] #[], .func (.func 99) #[] #[], .func (.func 100) #[] #[], .func (.func 101) #[] #[], .func (.func 102) #[] #[], .func (.func 103) #[] #[], .func (.func 104) #[] #[], .func (.func 105) #[] #[]] 8 info8R rfl rfl (by simp [Value.oneCell'])
  have HW := Lib.hid hW0
  have HS := Lib.hid (RdOk.drew (rok_below hs0 bl1))
  have KE := Lib.hid ((ke0.below bl1 ke0.lt).drew)
  have HO := Lib.hid ((ho0.trans (Only.of_below _ bl1)).drew)
  have kf := kf0.below bl1 kf0.lt
  have KF := Lib.hid kf.drew
  have HBG := Lib.hid (And.intro hbg hbe)
  have x0 : W1.cell? ⟨b, 0, none⟩ = some (.int .i8 6) := mt_cell (ke0.below bl1 ke0.lt) (j := 0) rfl
  have x1 : W1.cell? ⟨w.heap.size, 1, none⟩ = some (.pointer (some ⟨b, 0, none⟩)) := kf.cell 1
  have x2 : W1.drew.cell? ⟨W0.heap.size, 6, none⟩ = some (.func (.func 104) #[] #[]) := k1.drew.cell 6
  have x3 := bk_load (P := Tryz.prog) 2 KF.out rfl
  have NM := Lib.hid (rmstate g b (Mt0 6) s i bad hz1 hz2 hz3 hz4 hz5 hz6 hz7 hz8 hz9 W1.drew HS.out KE.out HBG.out.1 HBG.out.2 rfl)
  clear hW0 kf0 hs0 ke0 ho0 k1 bl1 s1 kf h hE hbg hbe hz hz1 hz2 hz3 hz4 hz5 hz6 hz7 hz8 hz9
  go_enter Tryz.func68, Tryz.ntmps68
  go_upto_region 1 with (fail)
  rw [← HW.out]
  go_wp2_with fail
  refine wp_region_qtail 4 (by kernel_rfl) (by kernel_rfl) ?_
  simp only [List.take_succ_cons, List.take_zero, List.drop_succ_cons, List.drop_zero]
  repeat (go_big_quiet_step (fail))
  refine wpQuiet_nil ?_
  go_wp2_with fail
  refine NM.out.mono ?_
  rintro e w2 ⟨rfl, hs, hk, ho⟩
  obtain ⟨D, e2, hk1, hk3, hk4⟩ := hk
  have hk2 : ∃ D e2, Blk w2 b 42 (mtX (mtOf 6 (v1, 0, Pd0, false, 0, ⟨v2, v3, v4, v5, v6, [], qs, v9⟩, 0)) none D 0 e2) ∧ Reads w2 w2.heap.size 3 D qs.length (cellsP qs) ∧ ∀ ad, 0 < qs.length → D = some ad → w.heap.size ≤ ad.block := ⟨D, e2, hk1, hk3, fun ad h0 hd => Nat.le_trans HO.out.size (hk4 ad h0 hd)⟩
  have HR := Lib.hid (show RsP g b (mtOf 6 (v1, 0, Pd0, false, 0, ⟨v2, v3, v4, v5, v6, [], qs, v9⟩, 0)) s j9 b9 w (.returned (.tuple #[])) w2 from ⟨rfl, hs, hk2, HO.out.trans ho⟩)
  clear hs ho
  go_wp2_with fail
  go_end0
  exact HR.out
set_option maxRecDepth 100000 in
set_option maxHeartbeats 4000000 in
theorem rmall_7 (g b : Nat) (s : ByteArray) (i j : Nat) (bad b' : Bool) (y : Mb) (w : World) (h : ROk w g s i bad) (hE : Blk w b 42 (mtX (Mt0 7) none none 0 0)) (hbg : b ≠ g) (hbe : b ≠ 0) (hz : rM 6 7 (lb s) i bad = (y, j, b')) :
    Calls Tryz.prog 68 #[.agg #[.iface 128 (.agg #[.pointer (some ⟨g, 0, none⟩)]), .pointer (some ⟨b, 0, none⟩)]] w (RsP g b (mtOf 7 y) s j b' w) := by
  obtain ⟨v1, j1, b1, hz1⟩ : ∃ v j b, rdNum (lb s) i bad 0 8 = (v, j, b) := ⟨_, _, _, rfl⟩
  have e : (y, j, b') = ((0, 0, Pd0, false, 0, Co0, v1), j1, b1) := by
    rw [← hz, show rM 6 7 = rM7 from rfl]
    have hy1 : rdNum (lb s) i bad ((0 : Nat) : Int) ((8 : Nat) : Int) = (v1, j1, b1) := hz1
    simp only [rM7, rdMap, rdBind, rI, hy1]
  injection e with e1 e2
  injection e2 with e2 e3
  have e2 := e2.symm
  have e3 := e3.symm
  subst e1; subst e2; subst e3
  obtain ⟨W0, hW0⟩ : ∃ W0, W0 = w.alloc (.cells #[.iface 128 (.agg #[.pointer (some ⟨g, 0, none⟩)]), .pointer (some ⟨b, 0, none⟩)] 114) := ⟨_, rfl⟩
  have kf0 : Blk W0 w.heap.size 114 #[.iface 128 (.agg #[.pointer (some ⟨g, 0, none⟩)]), .pointer (some ⟨b, 0, none⟩)] := by rw [hW0]; exact Blk.new w 114 #[.iface 128 (.agg #[.pointer (some ⟨g, 0, none⟩)]), .pointer (some ⟨b, 0, none⟩)]
  have hs0 : ROk W0 g s i bad := by rw [hW0]; exact rok_alloc h _
  have ke0 : Blk W0 b 42 (mtX (Mt0 7) none none 0 0) := by rw [hW0]; exact hE.alloc _
  have ho0 : Only (fun x => x = g ∨ x = b) w W0 := by rw [hW0]; exact (Only.refl _ _).alloc _
  obtain ⟨W1, st1, k1, bl1, s1⟩ := bk_fresh (P := Tryz.prog) W0 140 #[.nilFunc, .nilFunc, .nilFunc, .nilFunc, .nilFunc, .nilFunc, .nilFunc, .nilFunc] #[.func (.func 98) #[] #[], .func (.func 99) #[] #[], .func (.func 100) #[] #[], .func (.func 101) #[] #[], .func (.func 102) #[] #[], .func (.func 103) #[] #[], .func (.func 104) #[] #[], .func (.func 105) #[] #[]] 8 info8R rfl rfl (by simp [Value.oneCell'])
  have HW := Lib.hid hW0
  have HS := Lib.hid (RdOk.drew (rok_below hs0 bl1))
  have KE := Lib.hid ((ke0.below bl1 ke0.lt).drew)
  have HO := Lib.hid ((ho0.trans (Only.of_below _ bl1)).drew)
  have kf := kf0.below bl1 kf0.lt
  have KF := Lib.hid kf.drew
  have HBG := Lib.hid (And.intro hbg hbe)
  have x0 : W1.cell? ⟨b, 0, none⟩ = some (.int .i8 7) := mt_cell (ke0.below bl1 ke0.lt) (j := 0) rfl
  have x1 : W1.cell? ⟨w.heap.size, 1, none⟩ = some (.pointer (some ⟨b, 0, none⟩)) := kf.cell 1
  have x2 : W1.drew.cell? ⟨W0.heap.size, 7, none⟩ = some (.func (.func 105) #[] #[]) := k1.drew.cell 7
  have x3 := bk_load (P := Tryz.prog) 2 KF.out rfl
  have NM := Lib.hid (rmnext g b (Mt0 7) none none 0 0 s i bad hz1 W1.drew HS.out KE.out HBG.out.1 HBG.out.2)
  clear hW0 kf0 hs0 ke0 ho0 k1 bl1 s1 kf h hE hbg hbe hz hz1
  go_enter Tryz.func68, Tryz.ntmps68
  go_upto_region 1 with (fail)
  rw [← HW.out]
  go_wp2_with fail
  refine wp_region_qtail 4 (by kernel_rfl) (by kernel_rfl) ?_
  simp only [List.take_succ_cons, List.take_zero, List.drop_succ_cons, List.drop_zero]
  repeat (go_big_quiet_step (fail))
  refine wpQuiet_nil ?_
  go_wp2_with fail
  refine NM.out.mono ?_
  rintro e w2 ⟨rfl, hs, hk, ho⟩
  have HR := Lib.hid (show RsP g b (mtOf 7 (0, 0, Pd0, false, 0, Co0, v1)) s j1 b1 w (.returned (.tuple #[])) w2 from ⟨rfl, hs, ⟨none, 0, hk, Reads.none_, fun _ h => absurd h (Nat.lt_irrefl 0)⟩, HO.out.trans ho⟩)
  clear hs hk ho
  go_wp2_with fail
  go_end0
  exact HR.out
/-- All fields of a kind. -/
theorem rmall (g b : Nat) (kd : Int) (s : ByteArray) (i j : Nat) (bad b' : Bool) (y : Mb) (w : World) (h : ROk w g s i bad) (hE : Blk w b 42 (mtX (Mt0 kd) none none 0 0)) (hbg : b ≠ g) (hbe : b ≠ 0) (h0 : 0 ≤ kd) (h7 : kd ≤ 7) (hz : rM 6 kd (lb s) i bad = (y, j, b')) :
    Calls Tryz.prog 68 #[.agg #[.iface 128 (.agg #[.pointer (some ⟨g, 0, none⟩)]), .pointer (some ⟨b, 0, none⟩)]] w (RsP g b (mtOf kd y) s j b' w) := by
  obtain rfl | rfl | rfl | rfl | rfl | rfl | rfl | rfl : kd = 0 ∨ kd = 1 ∨ kd = 2 ∨ kd = 3 ∨ kd = 4 ∨ kd = 5 ∨ kd = 6 ∨ kd = 7 := by omega
  · exact rmall_0 g b s i j bad b' y w h hE hbg hbe hz
  · exact rmall_1 g b s i j bad b' y w h hE hbg hbe hz
  · exact rmall_2 g b s i j bad b' y w h hE hbg hbe hz
  · exact rmall_3 g b s i j bad b' y w h hE hbg hbe hz
  · exact rmall_4 g b s i j bad b' y w h hE hbg hbe hz
  · exact rmall_5 g b s i j bad b' y w h hE hbg hbe hz
  · exact rmall_6 g b s i j bad b' y w h hE hbg hbe hz
  · exact rmall_7 g b s i j bad b' y w h hE hbg hbe hz
end Go.Proofs.YtbpkckahonmpkaaGreatDoor
namespace Go.Proofs.YtbpkckahonmpkaaGreatDoor
open Go.RowKit

/-- A slice of bytes of the call's own. -/
def OwnVal (l : List UInt8) (w : World) (e : Ending) (w' : World) : Prop :=
  ∃ A c, e = .returned (.slice A l.length c) ∧ w'.ownsRow w.heap.size 5 1 (.slice A l.length c) l.length (cellsB l) ∧ l.length ≤ c ∧ Below w.heap.size w w'

set_option maxRecDepth 100000 in
set_option maxHeartbeats 400000 in
theorem Grow_any (n : Nat) (w : World) (h0 : 0 < n) (hn : n ≤ 200000) :
    Calls Tryz.prog 177 #[.slice none 0 0, .int .i64 n] w (OwnVal [] w) := by
  obtain ⟨i0, hi, hz0, hz1, hz2⟩ := info_parts infoByte
  have hrun := fun W => Lib.run_append_nil_zeros (P := Tryz.prog) W 75 3 75 5 i0 _ .i64 .i64 Tryz.underlying75 Tryz.underlying3 hi hz0 n h0 (by rw [hz1]; decide) (by omega) (by rw [hz2]; omega)
  have hcap := grownCap_ge w n 0 5
  have hcm := grownCap_le_maxLen w n 0 5 (by unfold maxLen; omega)
  have HRUN := Lib.hid (hrun w)
  generalize hgc : grownCap w n 0 5 = gc at *
  clear hrun
  have hnn : ¬ (n : Int) < 0 := by omega
  have hc2 := fun W => (cut_upto (P := Tryz.prog) (t := 75) (w := W) (B := W.heap.size) (A := none) (c := 0) (xs := []) Tryz.underlying75 (fun _ => by kernel_rfl) Reads.none_ 0 (Nat.le_refl _) (Nat.le_refl _)).1
  go_enter Tryz.func177, Tryz.ntmps177
  go_wp2_with (at_builtin; refine Lib.wpList_append_run _ rfl (.tmp 20) (.tmp 21) 75 3 rfl _ _ rfl rfl _ _ HRUN.out ?_)
  go_ret
  refine ⟨some ⟨w.heap.size, 0, none⟩, gc, rfl, ⟨by simp [cellsB], .inr ⟨w.heap.size, gc, _, rfl, Nat.le_refl _, heap_alloc_new w.drew _, Nat.zero_le _, hcm, ?_, by simp [cellsB]⟩⟩, Nat.zero_le _, (Below.refl _ w).drew.alloc (Nat.le_refl _) _⟩
  simp [size_zeroCells, Value.cells]
  omega

set_option maxRecDepth 100000 in
set_option maxHeartbeats 1000000 in
theorem Concat_any (b : Nat) (A A2 : Option Addr) (l l2 : List UInt8) (c c2 : Nat) (w : World) (h0 : w.cell? ⟨b, 0, none⟩ = some (.slice A l.length c)) (h1 : w.cell? ⟨b, 1, none⟩ = some (.slice A2 l2.length c2))
    (hr : Reads w w.heap.size 1 A l.length (cellsB l)) (hr2 : Reads w w.heap.size 1 A2 l2.length (cellsB l2)) (hl : l.length ≤ 90000) (hl2 : l2.length ≤ 90000) (hp : 0 < l2.length) :
    Calls Tryz.prog 176 #[.slice (some ⟨b, 0, none⟩) 2 2] w (OwnVal (l ++ l2) w) := by
  obtain ⟨i0, hi, hz0, hz1, hz2⟩ := info_parts infoByte
  have HG := Lib.hid (Grow_any (l.length + l2.length) w (by omega) (by omega))
  have HR := Lib.hid hr
  have HR2 := Lib.hid hr2
  have hbl := block_lt_of_cell h0
  have H0 := Lib.hid h0
  have H1 := Lib.hid h1
  clear hr hr2
  go_enter Tryz.func176, Tryz.ntmps176
  go_wp2_with fail
  refine wp_loop_rounds 3 ?_
  rw [rounds_succ]
  go_wp2_with fail
  rw [rounds_succ]
  go_wp2_with fail
  rw [rounds_succ]
  go_wp2_with fail
  refine HG.out.mono ?_
  rintro e w1 ⟨A1, c1, rfl, ho1, hc1, hb1⟩
  have hx0 := (hb1.cell (p := ⟨b, 0, none⟩) hbl).trans H0.out
  have hx1 := (hb1.cell (p := ⟨b, 1, none⟩) hbl).trans H1.out
  have hz3 := hb1.size
  clear h0 h1
  go_wp2_with fail
  refine wp_loop_rounds 3 ?_
  rw [rounds_succ]
  go_wp2_with (at_builtin; refine wpList_append_any _ rfl (.tmp 31) (.tmp 32) 75 rfl w.heap.size 5 i0 (.int .u8 0) 1 1 Tryz.underlying75 hi hz0 hz1 hz2 rfl (by decide) (.slice A1 0 c1) 0 ([]) rfl ho1 w1.heap.size A l.length c (cellsB l) rfl ((HR.out.below hb1).more hz3) (cellsB_one _) (by unfold maxLen; omega) (by omega) hz3 ?_; intro v2 w2 ho2 hg2 hat2)
  rw [Nat.zero_add, List.nil_append] at ho2
  have hb2 : Below w.heap.size w w2 := hb1.grown hg2 hz3 (fun g hg => (ho1.lt g hg).1)
  have hz4 := hb2.size
  have hy1 := (hb2.cell (p := ⟨b, 1, none⟩) hbl).trans H1.out
  have HO2 := Lib.hid ho2
  clear ho1 hg2 hat2 ho2 hx0 hx1
  rw [rounds_succ]
  go_wp2_with (at_builtin; refine wpList_append_any _ rfl (.tmp 31) (.tmp 32) 75 rfl w.heap.size 5 i0 (.int .u8 0) 1 1 Tryz.underlying75 hi hz0 hz1 hz2 rfl (by decide) (v2) l.length (cellsB l) rfl HO2.out w2.heap.size A2 l2.length c2 (cellsB l2) rfl ((HR2.out.below hb2).more hz4) (cellsB_one _) (by unfold maxLen; omega) (by omega) hz4 ?_; intro v3 w3 ho3 hg3 hat3)
  rw [rounds_succ]
  go_wp2_with fail
  have hb3 : Below w.heap.size w w3 := hb2.grown hg3 hz4 (fun g hg => (HO2.out.lt g hg).1)
  rw [← cellsB_append, ← List.length_append] at ho3
  obtain ⟨A3, c3, rfl, hc3⟩ := own_slice ho3
  go_ret
  exact ⟨A3, c3, rfl, ho3, hc3, hb3⟩

end Go.Proofs.YtbpkckahonmpkaaGreatDoor
namespace Go.Proofs.YtbpkckahonmpkaaGreatDoor
open Go.RowKit

set_option maxRecDepth 100000 in
set_option maxHeartbeats 400000 in
theorem Flag_any (A : Option Addr) (l : List UInt8) (c : Nat) (y : Bool) (w : World) (hr : Reads w w.heap.size 1 A l.length (cellsB l)) (hl : l.length ≤ 80000) :
    Calls Tryz.prog 175 #[.slice A l.length c, .bool y] w (OwnVal (l ++ encY y) w) := by
  cases y
  · have HC := Lib.hid (Concat_any (w.heap.size + 1) A (some ⟨w.heap.size, 0, none⟩) l [0] c 1 ((w.alloc (.cells #[.int .u8 0] 5)).alloc (.cells #[.slice A l.length c, .slice (some ⟨w.heap.size, 0, none⟩) 1 1] 75)) (by simp) (by simp) ((((hr.alloc (Nat.le_refl _) _).more (by simp)).alloc (Nat.le_refl _) _).more (by simp)) (((reads_new w 5 [0]).alloc (by simp) _).more (by simp)) (by omega) (by simp) (by simp))
    have HB := Lib.hid (fun x y => ((Below.refl w.heap.size w).alloc (Nat.le_refl _) x).alloc (by simp) y)
    clear hr
    show Calls _ _ _ w (OwnVal (l ++ [0]) w)
    generalize l ++ [0] = L at *
    go_enter Tryz.func175, Tryz.ntmps175
    go_wp2_with fail
    refine HC.out.mono ?_
    rintro e w1 ⟨A1, c1, rfl, ho1, hc1, hb1⟩
    go_wp2_with fail
    go_ret
    exact ⟨A1, c1, rfl, own_base ho1 (by simp; omega), hc1, (HB.out _ _).trans (hb1.mono (by simp; omega))⟩
  · have HC := Lib.hid (Concat_any (w.heap.size + 1) A (some ⟨w.heap.size, 0, none⟩) l [1] c 1 ((w.alloc (.cells #[.int .u8 1] 5)).alloc (.cells #[.slice A l.length c, .slice (some ⟨w.heap.size, 0, none⟩) 1 1] 75)) (by simp) (by simp) ((((hr.alloc (Nat.le_refl _) _).more (by simp)).alloc (Nat.le_refl _) _).more (by simp)) (((reads_new w 5 [1]).alloc (by simp) _).more (by simp)) (by omega) (by simp) (by simp))
    have HB := Lib.hid (fun x y => ((Below.refl w.heap.size w).alloc (Nat.le_refl _) x).alloc (by simp) y)
    clear hr
    show Calls _ _ _ w (OwnVal (l ++ [1]) w)
    generalize l ++ [1] = L at *
    go_enter Tryz.func175, Tryz.ntmps175
    go_wp2_with fail
    refine HC.out.mono ?_
    rintro e w1 ⟨A1, c1, rfl, ho1, hc1, hb1⟩
    go_wp2_with fail
    go_ret
    exact ⟨A1, c1, rfl, own_base ho1 (by simp; omega), hc1, (HB.out _ _).trans (hb1.mono (by simp; omega))⟩

end Go.Proofs.YtbpkckahonmpkaaGreatDoor
