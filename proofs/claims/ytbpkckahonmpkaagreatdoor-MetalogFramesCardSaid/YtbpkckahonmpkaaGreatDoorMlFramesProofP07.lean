/-
  A region that draws its order, by its orders: all of them are listed, and each is walked as a plain region is (what a guard leaves out is left out).
  Layer 19: metalog's writer: all fields of a kind.
  Layer 19: whether two entries are the same: by the program and by the document.
-/
import Derived.Test.YtbpkckahonmpkaaGreatDoorMlFramesProofP06
import Derived.Deep.CutBlock
import Derived.Orders
import Derived.Tactics
import Derived.WalkKit
set_option linter.unusedVariables false
set_option linter.unusedSimpArgs false
namespace Go.Proofs.YtbpkckahonmpkaaGreatDoor
open Go.RowKit
theorem wmnone (g K : Nat) (l : List UInt8) (b : Nat) (m : Mt) (A D : Option Addr) (c e : Nat) (w : World) (h : WmS g K l w) (hE : Blk w b 42 (mtX m A D c e)) :
    Calls Tryz.prog 98 #[.agg #[.iface 105 (.pointer (some ⟨g, 0, none⟩)), .pointer (some ⟨b, 0, none⟩)]] w (WmE g K b (mtX m A D c e) l w) := by
  have R := Lib.hid (show WmE g K b (mtX m A D c e) l w (.returned (.tuple #[])) (w.alloc (.cells #[.iface 105 (.pointer (some ⟨g, 0, none⟩)), .pointer (some ⟨b, 0, none⟩)] 114)) from ⟨rfl, h.alloc _, hE.alloc _, (Only.refl _ _).alloc _⟩)
  clear h hE
  go_enter Tryz.func98, Tryz.ntmps98
  go_wp2_with fail
  go_end0
  exact R.out
theorem info8 : (Tryz.prog.info? 140).map (·.size) = some 8 := by kernel_rfl
attribute [-go_sem] loadCells storeVar
set_option maxRecDepth 100000 in
set_option maxHeartbeats 4000000 in
theorem wmall_0 (g K : Nat) (l : List UInt8) (b : Nat) (m : Mt) (A D : Option Addr) (c e : Nat) (w : World) (hk : m.kd = 0) (h : WmS g K l w) (hE : Blk w b 42 (mtX m A D c e)) (hbg : b ≠ g)  (hl : l.length ≤ 50) :
    Calls Tryz.prog 68 #[.agg #[.iface 105 (.pointer (some ⟨g, 0, none⟩)), .pointer (some ⟨b, 0, none⟩)]] w (WmE g K b (mtX m A D c e) (l ++ encMb m) w) := by
  have he : encMb m = [] := by unfold encMb; rw [hk]; rfl
  obtain ⟨W0, hW0⟩ : ∃ W0, W0 = w.alloc (.cells #[.iface 105 (.pointer (some ⟨g, 0, none⟩)), .pointer (some ⟨b, 0, none⟩)] 114) := ⟨_, rfl⟩
  have kf0 : Blk W0 w.heap.size 114 #[.iface 105 (.pointer (some ⟨g, 0, none⟩)), .pointer (some ⟨b, 0, none⟩)] := by rw [hW0]; exact Blk.new w 114 #[.iface 105 (.pointer (some ⟨g, 0, none⟩)), .pointer (some ⟨b, 0, none⟩)]
  have hs0 : WmS g K l W0 := by rw [hW0]; exact h.alloc _
  have ke0 : Blk W0 b 42 (mtX m A D c e) := by rw [hW0]; exact hE.alloc _
  have ho0 : Only (fun x => x = g ∨ x = b) w W0 := by rw [hW0]; exact (Only.refl _ _).alloc _
  obtain ⟨W1, st1, k1, b1, s1⟩ := bk_fresh (P := Tryz.prog) W0 140 #[.nilFunc, .nilFunc, .nilFunc, .nilFunc, .nilFunc, .nilFunc, .nilFunc, .nilFunc] #[.func (.func 98) #[] #[], .func (.func 99) #[] #[], .func (.func 100) #[] #[], .func (.func 101) #[] #[], .func (.func 102) #[] #[], .func (.func 103) #[] #[], .func (.func 104) #[] #[], .func (.func 105) #[] #[]] 8 info8 rfl rfl (by simp [Value.oneCell'])
  have HW := Lib.hid hW0
  have HS := Lib.hid ((hs0.below b1).drew)
  have KE := Lib.hid ((ke0.below b1 ke0.lt).drew)
  have HO := Lib.hid ((ho0.trans (Only.of_below _ b1)).drew)
  have kf := kf0.below b1 kf0.lt
  have KF := Lib.hid kf.drew
  have K1 := Lib.hid k1.drew
  have HBG := Lib.hid hbg
  have HL := Lib.hid hl
  have HE := Lib.hid he
  have x0 : W1.cell? ⟨b, 0, none⟩ = some (.int .i8 0) := by rw [← hk]; exact mt_cell (ke0.below b1 ke0.lt) (j := 0) rfl
  have x1 : W1.cell? ⟨w.heap.size, 1, none⟩ = some (.pointer (some ⟨b, 0, none⟩)) := kf.cell 1
  have x2 : W1.drew.cell? ⟨W0.heap.size, 0, none⟩ = some (.func (.func 98) #[] #[]) := k1.drew.cell 0
  have x3 := bk_load (P := Tryz.prog) 2 KF.out rfl
  have NM := Lib.hid (wmnone g K l b m A D c e W1.drew HS.out KE.out)
  clear hW0 kf0 hs0 ke0 ho0 k1 b1 s1 kf h hE hbg hl hk he 
  go_enter Tryz.func68, Tryz.ntmps68
  go_upto_region 1 with (fail)
  rw [← HW.out]
  go_wp2_with fail
  refine wp_region_qtail 4 (by kernel_rfl) (by kernel_rfl) ?_
  simp only [List.take_succ_cons, List.take_zero, List.drop_succ_cons, List.drop_zero]
  repeat (go_big_quiet_step (fail))
  refine wpQuiet_nil ?_
  go_wp2_with fail
  refine NM.out.mono ?_
  rintro e w2 ⟨rfl, hs, hk, ho⟩
  have HR := Lib.hid (show WmE g K b (mtX m A D c e) (l ++ encMb m) w (.returned (.tuple #[])) w2 from ⟨rfl, by rw [HE.out]; rw [List.append_nil]; exact hs, hk, HO.out.trans ho⟩)
  clear hs hk ho
  go_wp2_with fail
  go_end0
  exact HR.out
set_option maxRecDepth 100000 in
set_option maxHeartbeats 4000000 in
theorem wmall_1 (g K : Nat) (l : List UInt8) (b : Nat) (m : Mt) (A D : Option Addr) (c e : Nat) (w : World) (hk : m.kd = 1) (h : WmS g K l w) (hE : Blk w b 42 (mtX m A D c e)) (hbg : b ≠ g) (ht : 0 ≤ m.tid ∧ m.tid ≤ 1048576) (hn : 0 ≤ m.tm ∧ m.tm ≤ 1048576) (hl : l.length ≤ 50) :
    Calls Tryz.prog 68 #[.agg #[.iface 105 (.pointer (some ⟨g, 0, none⟩)), .pointer (some ⟨b, 0, none⟩)]] w (WmE g K b (mtX m A D c e) (l ++ encMb m) w) := by
  have he : encMb m = enc m.tid.toNat ++ enc m.tm.toNat := by unfold encMb; rw [hk]; rfl
  obtain ⟨W0, hW0⟩ : ∃ W0, W0 = w.alloc (.cells #[.iface 105 (.pointer (some ⟨g, 0, none⟩)), .pointer (some ⟨b, 0, none⟩)] 114) := ⟨_, rfl⟩
  have kf0 : Blk W0 w.heap.size 114 #[.iface 105 (.pointer (some ⟨g, 0, none⟩)), .pointer (some ⟨b, 0, none⟩)] := by rw [hW0]; exact Blk.new w 114 #[.iface 105 (.pointer (some ⟨g, 0, none⟩)), .pointer (some ⟨b, 0, none⟩)]
  have hs0 : WmS g K l W0 := by rw [hW0]; exact h.alloc _
  have ke0 : Blk W0 b 42 (mtX m A D c e) := by rw [hW0]; exact hE.alloc _
  have ho0 : Only (fun x => x = g ∨ x = b) w W0 := by rw [hW0]; exact (Only.refl _ _).alloc _
  obtain ⟨W1, st1, k1, b1, s1⟩ := bk_fresh (P := Tryz.prog) W0 140 #[.nilFunc, .nilFunc, .nilFunc, .nilFunc, .nilFunc, .nilFunc, .nilFunc, .nilFunc] #[.func (.func 98) #[] #[], .func (.func 99) #[] #[], .func (.func 100) #[] #[], .func (.func 101) #[] #[], .func (.func 102) #[] #[], .func (.func 103) #[] #[], .func (.func 104) #[] #[], .func (.func 105) #[] #[]] 8 info8 rfl rfl (by simp [Value.oneCell'])
  have HW := Lib.hid hW0
  have HS := Lib.hid ((hs0.below b1).drew)
  have KE := Lib.hid ((ke0.below b1 ke0.lt).drew)
  have HO := Lib.hid ((ho0.trans (Only.of_below _ b1)).drew)
  have kf := kf0.below b1 kf0.lt
  have KF := Lib.hid kf.drew
  have K1 := Lib.hid k1.drew
  have HBG := Lib.hid hbg
  have HL := Lib.hid hl
  have HE := Lib.hid he
  have HT := Lib.hid ht
  have HN := Lib.hid hn
  have x0 : W1.cell? ⟨b, 0, none⟩ = some (.int .i8 1) := by rw [← hk]; exact mt_cell (ke0.below b1 ke0.lt) (j := 0) rfl
  have x1 : W1.cell? ⟨w.heap.size, 1, none⟩ = some (.pointer (some ⟨b, 0, none⟩)) := kf.cell 1
  have x2 : W1.drew.cell? ⟨W0.heap.size, 1, none⟩ = some (.func (.func 99) #[] #[]) := k1.drew.cell 1
  have x3 := bk_load (P := Tryz.prog) 2 KF.out rfl
  have NM := Lib.hid (wmbegin g K l b m A D c e W1.drew HS.out KE.out HBG.out HT.out HN.out (by have := HL.out; omega))
  clear hW0 kf0 hs0 ke0 ho0 k1 b1 s1 kf h hE hbg hl hk he ht hn
  go_enter Tryz.func68, Tryz.ntmps68
  go_upto_region 1 with (fail)
  rw [← HW.out]
  go_wp2_with fail
  refine wp_region_qtail 4 (by kernel_rfl) (by kernel_rfl) ?_
  simp only [List.take_succ_cons, List.take_zero, List.drop_succ_cons, List.drop_zero]
  repeat (go_big_quiet_step (fail))
  refine wpQuiet_nil ?_
  go_wp2_with fail
  refine NM.out.mono ?_
  rintro e w2 ⟨rfl, hs, hk, ho⟩
  have HR := Lib.hid (show WmE g K b (mtX m A D c e) (l ++ encMb m) w (.returned (.tuple #[])) w2 from ⟨rfl, by rw [HE.out]; exact hs, hk, HO.out.trans ho⟩)
  clear hs hk ho
  go_wp2_with fail
  go_end0
  exact HR.out
set_option maxRecDepth 100000 in
set_option maxHeartbeats 4000000 in
theorem wmall_2 (g K : Nat) (l : List UInt8) (b : Nat) (m : Mt) (A D : Option Addr) (c e : Nat) (w : World) (hk : m.kd = 2) (h : WmS g K l w) (hE : Blk w b 42 (mtX m A D c e)) (hbg : b ≠ g) (ht : 0 ≤ m.tid ∧ m.tid ≤ 1048576) (hp : pendB m.p = true) (hl : l.length ≤ 50) :
    Calls Tryz.prog 68 #[.agg #[.iface 105 (.pointer (some ⟨g, 0, none⟩)), .pointer (some ⟨b, 0, none⟩)]] w (WmE g K b (mtX m A D c e) (l ++ encMb m) w) := by
  have he : encMb m = enc m.tid.toNat ++ (enc m.p.1.toNat ++ (enc m.p.2.1.toNat ++ enc m.p.2.2.toNat)) := by unfold encMb; rw [hk]; rfl
  obtain ⟨W0, hW0⟩ : ∃ W0, W0 = w.alloc (.cells #[.iface 105 (.pointer (some ⟨g, 0, none⟩)), .pointer (some ⟨b, 0, none⟩)] 114) := ⟨_, rfl⟩
  have kf0 : Blk W0 w.heap.size 114 #[.iface 105 (.pointer (some ⟨g, 0, none⟩)), .pointer (some ⟨b, 0, none⟩)] := by rw [hW0]; exact Blk.new w 114 #[.iface 105 (.pointer (some ⟨g, 0, none⟩)), .pointer (some ⟨b, 0, none⟩)]
  have hs0 : WmS g K l W0 := by rw [hW0]; exact h.alloc _
  have ke0 : Blk W0 b 42 (mtX m A D c e) := by rw [hW0]; exact hE.alloc _
  have ho0 : Only (fun x => x = g ∨ x = b) w W0 := by rw [hW0]; exact (Only.refl _ _).alloc _
  obtain ⟨W1, st1, k1, b1, s1⟩ := bk_fresh (P := Tryz.prog) W0 140 #[.nilFunc, .nilFunc, .nilFunc, .nilFunc, .nilFunc, .nilFunc, .nilFunc, .nilFunc] #[.func (.func 98) #[] #[], .func (.func 99) #[] #[], .func (.func 100) #[] #[], .func (.func 101) #[] #[], .func (.func 102) #[] #[], .func (.func 103) #[] #[], .func (.func 104) #[] #[], .func (.func 105) #[] #[]] 8 info8 rfl rfl (by simp [Value.oneCell'])
  have HW := Lib.hid hW0
  have HS := Lib.hid ((hs0.below b1).drew)
  have KE := Lib.hid ((ke0.below b1 ke0.lt).drew)
  have HO := Lib.hid ((ho0.trans (Only.of_below _ b1)).drew)
  have kf := kf0.below b1 kf0.lt
  have KF := Lib.hid kf.drew
  have K1 := Lib.hid k1.drew
  have HBG := Lib.hid hbg
  have HL := Lib.hid hl
  have HE := Lib.hid he
  have HT := Lib.hid ht
  have HP := Lib.hid hp
  have x0 : W1.cell? ⟨b, 0, none⟩ = some (.int .i8 2) := by rw [← hk]; exact mt_cell (ke0.below b1 ke0.lt) (j := 0) rfl
  have x1 : W1.cell? ⟨w.heap.size, 1, none⟩ = some (.pointer (some ⟨b, 0, none⟩)) := kf.cell 1
  have x2 : W1.drew.cell? ⟨W0.heap.size, 2, none⟩ = some (.func (.func 100) #[] #[]) := k1.drew.cell 2
  have x3 := bk_load (P := Tryz.prog) 2 KF.out rfl
  have NM := Lib.hid (wmoffset g K l b m A D c e W1.drew HS.out KE.out HBG.out HT.out HP.out (by have := HL.out; omega))
  clear hW0 kf0 hs0 ke0 ho0 k1 b1 s1 kf h hE hbg hl hk he ht hp
  go_enter Tryz.func68, Tryz.ntmps68
  go_upto_region 1 with (fail)
  rw [← HW.out]
  go_wp2_with fail
  refine wp_region_qtail 4 (by kernel_rfl) (by kernel_rfl) ?_
  simp only [List.take_succ_cons, List.take_zero, List.drop_succ_cons, List.drop_zero]
  repeat (go_big_quiet_step (fail))
  refine wpQuiet_nil ?_
  go_wp2_with fail
  refine NM.out.mono ?_
  rintro e w2 ⟨rfl, hs, hk, ho⟩
  have HR := Lib.hid (show WmE g K b (mtX m A D c e) (l ++ encMb m) w (.returned (.tuple #[])) w2 from ⟨rfl, by rw [HE.out]; exact hs, hk, HO.out.trans ho⟩)
  clear hs hk ho
  go_wp2_with fail
  go_end0
  exact HR.out
set_option maxRecDepth 100000 in
set_option maxHeartbeats 4000000 in
theorem wmall_3 (g K : Nat) (l : List UInt8) (b : Nat) (m : Mt) (A D : Option Addr) (c e : Nat) (w : World) (hk : m.kd = 3) (h : WmS g K l w) (hE : Blk w b 42 (mtX m A D c e)) (hbg : b ≠ g) (ht : 0 ≤ m.tid ∧ m.tid ≤ 1048576) (hn : 0 ≤ m.th ∧ m.th ≤ 1048576) (hl : l.length ≤ 50) :
    Calls Tryz.prog 68 #[.agg #[.iface 105 (.pointer (some ⟨g, 0, none⟩)), .pointer (some ⟨b, 0, none⟩)]] w (WmE g K b (mtX m A D c e) (l ++ encMb m) w) := by
  have he : encMb m = enc m.tid.toNat ++ (encY m.yes ++ enc m.th.toNat) := by unfold encMb; rw [hk]; rfl
  obtain ⟨W0, hW0⟩ : ∃ W0, W0 = w.alloc (.cells #[.iface 105 (.pointer (some ⟨g, 0, none⟩)), .pointer (some ⟨b, 0, none⟩)] 114) := ⟨_, rfl⟩
  have kf0 : Blk W0 w.heap.size 114 #[.iface 105 (.pointer (some ⟨g, 0, none⟩)), .pointer (some ⟨b, 0, none⟩)] := by rw [hW0]; exact Blk.new w 114 #[.iface 105 (.pointer (some ⟨g, 0, none⟩)), .pointer (some ⟨b, 0, none⟩)]
  have hs0 : WmS g K l W0 := by rw [hW0]; exact h.alloc _
  have ke0 : Blk W0 b 42 (mtX m A D c e) := by rw [hW0]; exact hE.alloc _
  have ho0 : Only (fun x => x = g ∨ x = b) w W0 := by rw [hW0]; exact (Only.refl _ _).alloc _
  obtain ⟨W1, st1, k1, b1, s1⟩ := bk_fresh (P := Tryz.prog) W0 140 #[.nilFunc, .nilFunc, .nilFunc, .nilFunc, .nilFunc, .nilFunc, .nilFunc, .nilFunc] #[.func (.func 98) #[] #[], .func (.func 99) #[] #[], .func (.func 100) #[] #[], .func (.func 101) #[] #[], .func (.func 102) #[] #[], .func (.func 103) #[] #[], .func (.func 104) #[] #[], .func (.func 105) #[] #[]] 8 info8 rfl rfl (by simp [Value.oneCell'])
  have HW := Lib.hid hW0
  have HS := Lib.hid ((hs0.below b1).drew)
  have KE := Lib.hid ((ke0.below b1 ke0.lt).drew)
  have HO := Lib.hid ((ho0.trans (Only.of_below _ b1)).drew)
  have kf := kf0.below b1 kf0.lt
  have KF := Lib.hid kf.drew
  have K1 := Lib.hid k1.drew
  have HBG := Lib.hid hbg
  have HL := Lib.hid hl
  have HE := Lib.hid he
  have HT := Lib.hid ht
  have HN := Lib.hid hn
  have x0 : W1.cell? ⟨b, 0, none⟩ = some (.int .i8 3) := by rw [← hk]; exact mt_cell (ke0.below b1 ke0.lt) (j := 0) rfl
  have x1 : W1.cell? ⟨w.heap.size, 1, none⟩ = some (.pointer (some ⟨b, 0, none⟩)) := kf.cell 1
  have x2 : W1.drew.cell? ⟨W0.heap.size, 3, none⟩ = some (.func (.func 101) #[] #[]) := k1.drew.cell 3
  have x3 := bk_load (P := Tryz.prog) 2 KF.out rfl
  have NM := Lib.hid (wmprep g K l b m A D c e W1.drew HS.out KE.out HBG.out HT.out HN.out (by have := HL.out; omega))
  clear hW0 kf0 hs0 ke0 ho0 k1 b1 s1 kf h hE hbg hl hk he ht hn
  go_enter Tryz.func68, Tryz.ntmps68
  go_upto_region 1 with (fail)
  rw [← HW.out]
  go_wp2_with fail
  refine wp_region_qtail 4 (by kernel_rfl) (by kernel_rfl) ?_
  simp only [List.take_succ_cons, List.take_zero, List.drop_succ_cons, List.drop_zero]
  repeat (go_big_quiet_step (fail))
  refine wpQuiet_nil ?_
  go_wp2_with fail
  refine NM.out.mono ?_
  rintro e w2 ⟨rfl, hs, hk, ho⟩
  have HR := Lib.hid (show WmE g K b (mtX m A D c e) (l ++ encMb m) w (.returned (.tuple #[])) w2 from ⟨rfl, by rw [HE.out]; exact hs, hk, HO.out.trans ho⟩)
  clear hs hk ho
  go_wp2_with fail
  go_end0
  exact HR.out
set_option maxRecDepth 100000 in
set_option maxHeartbeats 4000000 in
theorem wmall_4 (g K : Nat) (l : List UInt8) (b : Nat) (m : Mt) (A D : Option Addr) (c e : Nat) (w : World) (hk : m.kd = 4) (h : WmS g K l w) (hE : Blk w b 42 (mtX m A D c e)) (hbg : b ≠ g) (ht : 0 ≤ m.tid ∧ m.tid ≤ 1048576) (hl : l.length ≤ 50) :
    Calls Tryz.prog 68 #[.agg #[.iface 105 (.pointer (some ⟨g, 0, none⟩)), .pointer (some ⟨b, 0, none⟩)]] w (WmE g K b (mtX m A D c e) (l ++ encMb m) w) := by
  have he : encMb m = enc m.tid.toNat := by unfold encMb; rw [hk]; rfl
  obtain ⟨W0, hW0⟩ : ∃ W0, W0 = w.alloc (.cells #[.iface 105 (.pointer (some ⟨g, 0, none⟩)), .pointer (some ⟨b, 0, none⟩)] 114) := ⟨_, rfl⟩
  have kf0 : Blk W0 w.heap.size 114 #[.iface 105 (.pointer (some ⟨g, 0, none⟩)), .pointer (some ⟨b, 0, none⟩)] := by rw [hW0]; exact Blk.new w 114 #[.iface 105 (.pointer (some ⟨g, 0, none⟩)), .pointer (some ⟨b, 0, none⟩)]
  have hs0 : WmS g K l W0 := by rw [hW0]; exact h.alloc _
  have ke0 : Blk W0 b 42 (mtX m A D c e) := by rw [hW0]; exact hE.alloc _
  have ho0 : Only (fun x => x = g ∨ x = b) w W0 := by rw [hW0]; exact (Only.refl _ _).alloc _
  obtain ⟨W1, st1, k1, b1, s1⟩ := bk_fresh (P := Tryz.prog) W0 140 #[.nilFunc, .nilFunc, .nilFunc, .nilFunc, .nilFunc, .nilFunc, .nilFunc, .nilFunc] #[.func (.func 98) #[] #[], .func (.func 99) #[] #[], .func (.func 100) #[] #[], .func (.func 101) #[] #[], .func (.func 102) #[] #[], .func (.func 103) #[] #[], .func (.func 104) #[] #[], .func (.func 105) #[] #[]] 8 info8 rfl rfl (by simp [Value.oneCell'])
  have HW := Lib.hid hW0
  have HS := Lib.hid ((hs0.below b1).drew)
  have KE := Lib.hid ((ke0.below b1 ke0.lt).drew)
  have HO := Lib.hid ((ho0.trans (Only.of_below _ b1)).drew)
  have kf := kf0.below b1 kf0.lt
  have KF := Lib.hid kf.drew
  have K1 := Lib.hid k1.drew
  have HBG := Lib.hid hbg
  have HL := Lib.hid hl
  have HE := Lib.hid he
  have HT := Lib.hid ht
  have x0 : W1.cell? ⟨b, 0, none⟩ = some (.int .i8 4) := by rw [← hk]; exact mt_cell (ke0.below b1 ke0.lt) (j := 0) rfl
  have x1 : W1.cell? ⟨w.heap.size, 1, none⟩ = some (.pointer (some ⟨b, 0, none⟩)) := kf.cell 1
  have x2 : W1.drew.cell? ⟨W0.heap.size, 4, none⟩ = some (.func (.func 102) #[] #[]) := k1.drew.cell 4
  have x3 := bk_load (P := Tryz.prog) 2 KF.out rfl
  have NM := Lib.hid (wmtid g K l b m A D c e W1.drew HS.out KE.out HBG.out HT.out (by have := HL.out; omega))
  clear hW0 kf0 hs0 ke0 ho0 k1 b1 s1 kf h hE hbg hl hk he ht
  go_enter Tryz.func68, Tryz.ntmps68
  go_upto_region 1 with (fail)
  rw [← HW.out]
  go_wp2_with fail
  refine wp_region_qtail 4 (by kernel_rfl) (by kernel_rfl) ?_
  simp only [List.take_succ_cons, List.take_zero, List.drop_succ_cons, List.drop_zero]
  repeat (go_big_quiet_step (fail))
  refine wpQuiet_nil ?_
  go_wp2_with fail
  refine NM.out.mono ?_
  rintro e w2 ⟨rfl, hs, hk, ho⟩
  have HR := Lib.hid (show WmE g K b (mtX m A D c e) (l ++ encMb m) w (.returned (.tuple #[])) w2 from ⟨rfl, by rw [HE.out]; exact hs, hk, HO.out.trans ho⟩)
  clear hs hk ho
  go_wp2_with fail
  go_end0
  exact HR.out
set_option maxRecDepth 100000 in
set_option maxHeartbeats 4000000 in
theorem wmall_5 (g K : Nat) (l : List UInt8) (b : Nat) (m : Mt) (A D : Option Addr) (c e : Nat) (w : World) (hk : m.kd = 5) (h : WmS g K l w) (hE : Blk w b 42 (mtX m A D c e)) (hbg : b ≠ g) (hp : pendB m.p = true) (hl : l.length ≤ 50) :
    Calls Tryz.prog 68 #[.agg #[.iface 105 (.pointer (some ⟨g, 0, none⟩)), .pointer (some ⟨b, 0, none⟩)]] w (WmE g K b (mtX m A D c e) (l ++ encMb m) w) := by
  have he : encMb m = enc m.p.1.toNat ++ (enc m.p.2.1.toNat ++ enc m.p.2.2.toNat) := by unfold encMb; rw [hk]; rfl
  obtain ⟨W0, hW0⟩ : ∃ W0, W0 = w.alloc (.cells #[.iface 105 (.pointer (some ⟨g, 0, none⟩)), .pointer (some ⟨b, 0, none⟩)] 114) := ⟨_, rfl⟩
  have kf0 : Blk W0 w.heap.size 114 #[.iface 105 (.pointer (some ⟨g, 0, none⟩)), .pointer (some ⟨b, 0, none⟩)] := by rw [hW0]; exact Blk.new w 114 #[.iface 105 (.pointer (some ⟨g, 0, none⟩)), .pointer (some ⟨b, 0, none⟩)]
  have hs0 : WmS g K l W0 := by rw [hW0]; exact h.alloc _
  have ke0 : Blk W0 b 42 (mtX m A D c e) := by rw [hW0]; exact hE.alloc _
  have ho0 : Only (fun x => x = g ∨ x = b) w W0 := by rw [hW0]; exact (Only.refl _ _).alloc _
  obtain ⟨W1, st1, k1, b1, s1⟩ := bk_fresh (P := Tryz.prog) W0 140 #[.nilFunc, .nilFunc, .nilFunc, .nilFunc, .nilFunc, .nilFunc, .nilFunc, .nilFunc] #[.func (.func 98) #[] #[], .func (.func 99) #[] #[], .func (.func 100) #[] #[], .func (.func 101) #[] #[], .func (.func 102) #[] #[], .func (.func 103) #[] #[], .func (.func 104) #[] #[], .func (.func 105) #[] #[]] 8 info8 rfl rfl (by simp [Value.oneCell'])
  have HW := Lib.hid hW0
  have HS := Lib.hid ((hs0.below b1).drew)
  have KE := Lib.hid ((ke0.below b1 ke0.lt).drew)
  have HO := Lib.hid ((ho0.trans (Only.of_below _ b1)).drew)
  have kf := kf0.below b1 kf0.lt
  have KF := Lib.hid kf.drew
  have K1 := Lib.hid k1.drew
  have HBG := Lib.hid hbg
  have HL := Lib.hid hl
  have HE := Lib.hid he
  have HP := Lib.hid hp
  have x0 : W1.cell? ⟨b, 0, none⟩ = some (.int .i8 5) := by rw [← hk]; exact mt_cell (ke0.below b1 ke0.lt) (j := 0) rfl
  have x1 : W1.cell? ⟨w.heap.size, 1, none⟩ = some (.pointer (some ⟨b, 0, none⟩)) := kf.cell 1
  have x2 : W1.drew.cell? ⟨W0.heap.size, 5, none⟩ = some (.func (.func 103) #[] #[]) := k1.drew.cell 5
  have x3 := bk_load (P := Tryz.prog) 2 KF.out rfl
  have NM := Lib.hid (wmcommit g K l b m A D c e W1.drew HS.out KE.out HBG.out HP.out (by have := HL.out; omega))
  clear hW0 kf0 hs0 ke0 ho0 k1 b1 s1 kf h hE hbg hl hk he hp
  go_enter Tryz.func68, Tryz.ntmps68
  go_upto_region 1 with (fail)
  rw [← HW.out]
  go_wp2_with fail
  refine wp_region_qtail 4 (by kernel_rfl) (by kernel_rfl) ?_
  simp only [List.take_succ_cons, List.take_zero, List.drop_succ_cons, List.drop_zero]
  repeat (go_big_quiet_step (fail))
  refine wpQuiet_nil ?_
  go_wp2_with fail
  refine NM.out.mono ?_
  rintro e w2 ⟨rfl, hs, hk, ho⟩
  have HR := Lib.hid (show WmE g K b (mtX m A D c e) (l ++ encMb m) w (.returned (.tuple #[])) w2 from ⟨rfl, by rw [HE.out]; exact hs, hk, HO.out.trans ho⟩)
  clear hs hk ho
  go_wp2_with fail
  go_end0
  exact HR.out
set_option maxRecDepth 100000 in
set_option maxHeartbeats 4000000 in
theorem wmall_6 (g K : Nat) (l : List UInt8) (b B : Nat) (m : Mt) (A D : Option Addr) (c e : Nat) (w : World) (hk : m.kd = 6) (h : WmS g K l w) (hE : Blk w b 42 (mtX m A D c e)) (hbg : b ≠ g) (ht : 0 ≤ m.tid ∧ m.tid ≤ 1048576) (hd : Reads w B 3 D m.c.qs.length (cellsP m.c.qs)) (hb : B ≤ g ∧ B ≤ b ∧ b < K ∧ B ≤ w.heap.size) (hm : mayB m.c = true) (hl : l.length ≤ 50) :
    Calls Tryz.prog 68 #[.agg #[.iface 105 (.pointer (some ⟨g, 0, none⟩)), .pointer (some ⟨b, 0, none⟩)]] w (WmE g K b (mtX m A D c e) (l ++ encMb m) w) := by
  have he : encMb m = enc m.tid.toNat ++ (enc m.c.st.toNat ++ (enc m.c.pid.toNat ++ (enc m.c.ep.toNat ++ (enc m.c.tm.toNat ++ (enc m.c.th.toNat ++ (enc ((m.c.qs.length : Int)).toNat ++ (m.c.qs.flatMap cPn.e ++ enc m.c.ag.toNat))))))) := by unfold encMb; rw [hk]; rfl
  obtain ⟨W0, hW0⟩ : ∃ W0, W0 = w.alloc (.cells #[.iface 105 (.pointer (some ⟨g, 0, none⟩)), .pointer (some ⟨b, 0, none⟩)] 114) := ⟨_, rfl⟩
  have kf0 : Blk W0 w.heap.size 114 #[.iface 105 (.pointer (some ⟨g, 0, none⟩)), .pointer (some ⟨b, 0, none⟩)] := by rw [hW0]; exact Blk.new w 114 #[.iface 105 (.pointer (some ⟨g, 0, none⟩)), .pointer (some ⟨b, 0, none⟩)]
  have hs0 : WmS g K l W0 := by rw [hW0]; exact h.alloc _
  have ke0 : Blk W0 b 42 (mtX m A D c e) := by rw [hW0]; exact hE.alloc _
  have ho0 : Only (fun x => x = g ∨ x = b) w W0 := by rw [hW0]; exact (Only.refl _ _).alloc _
  obtain ⟨W1, st1, k1, b1, s1⟩ := bk_fresh (P := Tryz.prog) W0 140 #[.nilFunc, .nilFunc, .nilFunc, .nilFunc, .nilFunc, .nilFunc, .nilFunc, .nilFunc] #[.func (.func 98) #[] #[], .func (.func 99) #[] #[], .func (.func 100) #[] #[], .func (.func 101) #[] #[], .func (.func 102) #[] #[], .func (.func 103) #[] #[], .func (.func 104) #[] #[], .func (.func 105) #[] #[]] 8 info8 rfl rfl (by simp [Value.oneCell'])
  have HW := Lib.hid hW0
  have HS := Lib.hid ((hs0.below b1).drew)
  have KE := Lib.hid ((ke0.below b1 ke0.lt).drew)
  have HO := Lib.hid ((ho0.trans (Only.of_below _ b1)).drew)
  have kf := kf0.below b1 kf0.lt
  have KF := Lib.hid kf.drew
  have K1 := Lib.hid k1.drew
  have HBG := Lib.hid hbg
  have HL := Lib.hid hl
  have HE := Lib.hid he
  have RL := Lib.hid (show W1.drew.heap.size ≥ w.heap.size from by have := b1.size; have := ho0.size; exact Nat.le_trans ho0.size b1.size)
  have RD := Lib.hid (show Reads W1.drew B 3 D m.c.qs.length (cellsP m.c.qs) from (((by rw [hW0]; exact hd.alloc hb.2.2.2 _ : Reads W0 B 3 D m.c.qs.length (cellsP m.c.qs))).below (b1.mono (Nat.le_trans hb.2.2.2 ho0.size))).drew)
  have HT := Lib.hid ht
  have HD := Lib.hid hd
  have HB := Lib.hid hb
  have HM := Lib.hid hm
  have x0 : W1.cell? ⟨b, 0, none⟩ = some (.int .i8 6) := by rw [← hk]; exact mt_cell (ke0.below b1 ke0.lt) (j := 0) rfl
  have x1 : W1.cell? ⟨w.heap.size, 1, none⟩ = some (.pointer (some ⟨b, 0, none⟩)) := kf.cell 1
  have x2 : W1.drew.cell? ⟨W0.heap.size, 6, none⟩ = some (.func (.func 104) #[] #[]) := k1.drew.cell 6
  have x3 := bk_load (P := Tryz.prog) 2 KF.out rfl
  have NM := Lib.hid (wmstate g K l b B m A D c e W1.drew HS.out KE.out HBG.out HT.out RD.out (by have := HB.out; have := RL.out; omega) HM.out (by have := HL.out; omega))
  clear hW0 kf0 hs0 ke0 ho0 k1 b1 s1 kf h hE hbg hl hk he ht hd hb hm
  go_enter Tryz.func68, Tryz.ntmps68
  go_upto_region 1 with (fail)
  rw [← HW.out]
  go_wp2_with fail
  refine wp_region_qtail 4 (by kernel_rfl) (by kernel_rfl) ?_
  simp only [List.take_succ_cons, List.take_zero, List.drop_succ_cons, List.drop_zero]
  repeat (go_big_quiet_step (fail))
  refine wpQuiet_nil ?_
  go_wp2_with fail
  refine NM.out.mono ?_
  rintro e w2 ⟨rfl, hs, hk, ho⟩
  have HR := Lib.hid (show WmE g K b (mtX m A D c e) (l ++ encMb m) w (.returned (.tuple #[])) w2 from ⟨rfl, by rw [HE.out]; exact hs, hk, HO.out.trans ho⟩)
  clear hs hk ho
  go_wp2_with fail
  go_end0
  exact HR.out
set_option maxRecDepth 100000 in
set_option maxHeartbeats 4000000 in
theorem wmall_7 (g K : Nat) (l : List UInt8) (b : Nat) (m : Mt) (A D : Option Addr) (c e : Nat) (w : World) (hk : m.kd = 7) (h : WmS g K l w) (hE : Blk w b 42 (mtX m A D c e)) (hbg : b ≠ g) (hn : 0 ≤ m.nx ∧ m.nx ≤ 1048576) (hl : l.length ≤ 50) :
    Calls Tryz.prog 68 #[.agg #[.iface 105 (.pointer (some ⟨g, 0, none⟩)), .pointer (some ⟨b, 0, none⟩)]] w (WmE g K b (mtX m A D c e) (l ++ encMb m) w) := by
  have he : encMb m = enc m.nx.toNat := by unfold encMb; rw [hk]; rfl
  obtain ⟨W0, hW0⟩ : ∃ W0, W0 = w.alloc (.cells #[.iface 105 (.pointer (some ⟨g, 0, none⟩)), .pointer (some ⟨b, 0, none⟩)] 114) := ⟨_, rfl⟩
  have kf0 : Blk W0 w.heap.size 114 #[.iface 105 (.pointer (some ⟨g, 0, none⟩)), .pointer (some ⟨b, 0, none⟩)] := by rw [hW0]; exact Blk.new w 114 #[.iface 105 (.pointer (some ⟨g, 0, none⟩)), .pointer (some ⟨b, 0, none⟩)]
  have hs0 : WmS g K l W0 := by rw [hW0]; exact h.alloc _
  have ke0 : Blk W0 b 42 (mtX m A D c e) := by rw [hW0]; exact hE.alloc _
  have ho0 : Only (fun x => x = g ∨ x = b) w W0 := by rw [hW0]; exact (Only.refl _ _).alloc _
  obtain ⟨W1, st1, k1, b1, s1⟩ := bk_fresh (P := Tryz.prog) W0 140 #[.nilFunc, .nilFunc, .nilFunc, .nilFunc, .nilFunc, .nilFunc, .nilFunc, .nilFunc] #[.func (.func 98) #[] #[], .func (.func 99) #[] #[], .func (.func 100) #[] #[], .func (.func 101) #[] #[], .func (.func 102) #[] #[], .func (.func 103) #[] #[], .func (.func 104) #[] #[], .func (.func 105) #[] #[]] 8 info8 rfl rfl (by simp [Value.oneCell'])
  have HW := Lib.hid hW0
  have HS := Lib.hid ((hs0.below b1).drew)
  have KE := Lib.hid ((ke0.below b1 ke0.lt).drew)
  have HO := Lib.hid ((ho0.trans (Only.of_below _ b1)).drew)
  have kf := kf0.below b1 kf0.lt
  have KF := Lib.hid kf.drew
  have K1 := Lib.hid k1.drew
  have HBG := Lib.hid hbg
  have HL := Lib.hid hl
  have HE := Lib.hid he
  have HN := Lib.hid hn
  have x0 : W1.cell? ⟨b, 0, none⟩ = some (.int .i8 7) := by rw [← hk]; exact mt_cell (ke0.below b1 ke0.lt) (j := 0) rfl
  have x1 : W1.cell? ⟨w.heap.size, 1, none⟩ = some (.pointer (some ⟨b, 0, none⟩)) := kf.cell 1
  have x2 : W1.drew.cell? ⟨W0.heap.size, 7, none⟩ = some (.func (.func 105) #[] #[]) := k1.drew.cell 7
  have x3 := bk_load (P := Tryz.prog) 2 KF.out rfl
  have NM := Lib.hid (wmnext g K l b m A D c e W1.drew HS.out KE.out HBG.out HN.out (by have := HL.out; omega))
  clear hW0 kf0 hs0 ke0 ho0 k1 b1 s1 kf h hE hbg hl hk he hn
  go_enter Tryz.func68, Tryz.ntmps68
  go_upto_region 1 with (fail)
  rw [← HW.out]
  go_wp2_with fail
  refine wp_region_qtail 4 (by kernel_rfl) (by kernel_rfl) ?_
  simp only [List.take_succ_cons, List.take_zero, List.drop_succ_cons, List.drop_zero]
  repeat (go_big_quiet_step (fail))
  refine wpQuiet_nil ?_
  go_wp2_with fail
  refine NM.out.mono ?_
  rintro e w2 ⟨rfl, hs, hk, ho⟩
  have HR := Lib.hid (show WmE g K b (mtX m A D c e) (l ++ encMb m) w (.returned (.tuple #[])) w2 from ⟨rfl, by rw [HE.out]; exact hs, hk, HO.out.trans ho⟩)
  clear hs hk ho
  go_wp2_with fail
  go_end0
  exact HR.out
/-- All fields of an entry that may be. -/
theorem wmall (g K : Nat) (l : List UInt8) (b B : Nat) (m : Mt) (A D : Option Addr) (c e : Nat) (w : World) (h : WmS g K l w) (hE : Blk w b 42 (mtX m A D c e)) (hbg : b ≠ g)
    (hd : Reads w B 3 D m.c.qs.length (cellsP m.c.qs)) (hb : B ≤ g ∧ B ≤ b ∧ b < K ∧ B ≤ w.heap.size) (hm : mayM m = true) (hl : l.length ≤ 50) :
    Calls Tryz.prog 68 #[.agg #[.iface 105 (.pointer (some ⟨g, 0, none⟩)), .pointer (some ⟨b, 0, none⟩)]] w (WmE g K b (mtX m A D c e) (l ++ encMb m) w) := by
  obtain ⟨_, h1, h2, h3⟩ := mayM_bare hm
  have ht : 0 ≤ m.tid ∧ m.tid ≤ 1048576 := by omega
  unfold fitM at h3
  by_cases k0 : m.kd = 0
  · exact wmall_0 g K l b m A D c e w k0 h hE hbg hl
  by_cases k4 : m.kd = 4
  · exact wmall_4 g K l b m A D c e w k4 h hE hbg ht hl
  rw [if_neg (by omega)] at h3
  by_cases k1 : m.kd = 1
  · rw [if_pos k1] at h3
    simp only [Bool.and_eq_true, decide_eq_true_eq] at h3
    exact wmall_1 g K l b m A D c e w k1 h hE hbg ht (by omega) hl
  rw [if_neg k1] at h3
  by_cases k2 : m.kd = 2
  · rw [if_pos (.inl k2)] at h3
    exact wmall_2 g K l b m A D c e w k2 h hE hbg ht h3 hl
  by_cases k5 : m.kd = 5
  · rw [if_pos (.inr k5)] at h3
    exact wmall_5 g K l b m A D c e w k5 h hE hbg h3 hl
  rw [if_neg (by omega)] at h3
  by_cases k3 : m.kd = 3
  · rw [if_pos k3] at h3
    simp only [Bool.and_eq_true, decide_eq_true_eq] at h3
    exact wmall_3 g K l b m A D c e w k3 h hE hbg ht (by omega) hl
  rw [if_neg k3] at h3
  by_cases k6 : m.kd = 6
  · rw [if_pos k6, Bool.and_eq_true] at h3
    exact wmall_6 g K l b B m A D c e w k6 h hE hbg ht hd hb h3.2 hl
  rw [if_neg k6] at h3
  by_cases k7 : m.kd = 7
  · rw [if_pos k7] at h3
    simp only [Bool.and_eq_true, decide_eq_true_eq] at h3
    exact wmall_7 g K l b m A D c e w k7 h hE hbg (by omega) hl
  · rw [if_neg k7] at h3
    cases h3
end Go.Proofs.YtbpkckahonmpkaaGreatDoor
namespace Go.Proofs.YtbpkckahonmpkaaGreatDoor
open Go.RowKit
section
attribute [-go_sem] loadCells storeVar
set_option maxRecDepth 100000 in
set_option maxHeartbeats 8000000 in
theorem mSame_any (m n : Mt) (A1 D1 A2 D2 : Option Addr) (c1 e1 c2 e2 B1 B2 : Nat) (w : World) (h1 : CoR w B1 m.c A1 D1) (h2 : CoR w B2 n.c A2 D2) (hB1 : B1 ≤ w.heap.size) (hB2 : B2 ≤ w.heap.size) :
    Calls Tryz.prog 20 #[.agg (mtX m A1 D1 c1 e1), .agg (mtX n A2 D2 c2 e2)] w fun e w' => e = .returned (.bool (sameM m n)) ∧ Below w.heap.size w w' := by
  obtain ⟨W0, hW0⟩ : ∃ W0, W0 = (w.alloc (.cells (mtX m A1 D1 c1 e1) 42)).alloc (.cells (mtX n A2 D2 c2 e2) 42) := ⟨_, rfl⟩
  have B0 : Below w.heap.size w W0 := by rw [hW0]; exact bal (bal (Below.refl _ _) _) _
  have K1 : Blk W0 w.heap.size 42 (mtX m A1 D1 c1 e1) := by rw [hW0]; exact (Blk.new w 42 _).alloc _
  have K2 : Blk W0 (w.heap.size + 1) 42 (mtX n A2 D2 c2 e2) := by rw [hW0]; exact bk_new _ 42 _ (by simp)
  have HW := Lib.hid hW0
  have HB := Lib.hid B0
  have hc : ∃ u, u = sameB m.c n.c := ⟨_, rfl⟩
  obtain ⟨u8, hu8⟩ := hc
  have CC := Lib.hid (Same_any m.c n.c A1 D1 c1 e1 A2 D2 c2 e2 B1 B2 W0 (h1.below (B0.mono hB1)) (h2.below (B0.mono hB2)) (Nat.le_trans hB1 B0.size) (Nat.le_trans hB2 B0.size))
  rw [← hu8] at CC
  have ep := fun W => eqPend m.p n.p W
  have HS := Lib.hid (show sameM m n = ((m.kd == n.kd) && ((m.tid == n.tid) && ((m.tm == n.tm) && (decide (m.p = n.p) && ((m.yes == n.yes) && ((m.th == n.th) && ((m.nx == n.nx) && u8))))))) from by rw [hu8]; rfl)
  have x0 := mt_cell K1 (j := 0) rfl
  have x1 := mt_cell K1 (j := 1) rfl
  have x2 := mt_cell K1 (j := 2) rfl
  have x6 := mt_cell K1 (j := 6) rfl
  have x7 := mt_cell K1 (j := 7) rfl
  have x16 := mt_cell K1 (j := 16) rfl
  have y0 := mt_cell K2 (j := 0) rfl
  have y1 := mt_cell K2 (j := 1) rfl
  have y2 := mt_cell K2 (j := 2) rfl
  have y6 := mt_cell K2 (j := 6) rfl
  have y7 := mt_cell K2 (j := 7) rfl
  have y16 := mt_cell K2 (j := 16) rfl
  have lp := mt_pend (P := Tryz.prog) K1
  have lq := mt_pend (P := Tryz.prog) K2
  have lc := mt_co (P := Tryz.prog) K1
  have ld := mt_co (P := Tryz.prog) K2
  clear hW0 B0 h1 h2 hu8 hB1 hB2
  have z16 := mt_cell K1 (j := 16) rfl
  generalize hu1 : (m.kd == n.kd) = u1 at HS
  generalize hu2 : (m.tid == n.tid) = u2 at HS
  generalize hu3 : (m.tm == n.tm) = u3 at HS
  generalize hu4 : decide (m.p = n.p) = u4 at HS ep
  generalize hu5 : (m.yes == n.yes) = u5 at HS
  generalize hu6 : (m.th == n.th) = u6 at HS
  generalize hu7 : (m.nx == n.nx) = u7 at HS
  have K1' := Lib.hid K1
  have K2' := Lib.hid K2
  clear K1 K2 z16 hu4
  cases u1
  · go_enter Tryz.func20, Tryz.ntmps20
    go_upto_region 1 with (fail)
    rw [← HW.out]
    go_wp2_with fail
    go_ret
    rw [HS.out]
    refine ⟨?_, HB.out⟩
    simp
  cases u2
  · go_enter Tryz.func20, Tryz.ntmps20
    go_upto_region 1 with (fail)
    rw [← HW.out]
    go_wp2_with fail
    go_ret
    rw [HS.out]
    refine ⟨?_, HB.out⟩
    simp
  cases u3
  · go_enter Tryz.func20, Tryz.ntmps20
    go_upto_region 1 with (fail)
    rw [← HW.out]
    go_wp2_with fail
    go_ret
    rw [HS.out]
    refine ⟨?_, HB.out⟩
    simp
  cases u4
  · go_enter Tryz.func20, Tryz.ntmps20
    go_upto_region 1 with (fail)
    rw [← HW.out]
    go_wp2_with fail
    go_ret
    rw [HS.out]
    refine ⟨?_, HB.out⟩
    simp
  cases u5
  · go_enter Tryz.func20, Tryz.ntmps20
    go_upto_region 1 with (fail)
    rw [← HW.out]
    go_wp2_with fail
    go_ret
    rw [HS.out]
    refine ⟨?_, HB.out⟩
    simp
  cases u6
  · go_enter Tryz.func20, Tryz.ntmps20
    go_upto_region 1 with (fail)
    rw [← HW.out]
    go_wp2_with fail
    go_ret
    rw [HS.out]
    refine ⟨?_, HB.out⟩
    simp
  cases u7
  · go_enter Tryz.func20, Tryz.ntmps20
    go_upto_region 1 with (fail)
    rw [← HW.out]
    go_wp2_with fail
    go_ret
    rw [HS.out]
    refine ⟨?_, HB.out⟩
    simp
  cases u8
  · go_enter Tryz.func20, Tryz.ntmps20
    go_upto_region 1 with (fail)
    rw [← HW.out]
    go_wp2_with fail
    refine CC.out.mono ?_
    rintro e w5 ⟨rfl, b5⟩
    have B5 := Lib.hid (HB.out.trans (b5.mono HB.out.size))
    have v16 := mt_cell (K1'.out.below b5 K1'.out.lt) (j := 16) rfl
    have t16 := mt_cell (K2'.out.below b5 K2'.out.lt) (j := 16) rfl
    clear b5
    go_wp2_with fail
    go_ret
    rw [HS.out]
    refine ⟨?_, B5.out⟩
    simp
  go_enter Tryz.func20, Tryz.ntmps20
  go_upto_region 1 with (fail)
  rw [← HW.out]
  go_wp2_with fail
  refine CC.out.mono ?_
  rintro e w5 ⟨rfl, b5⟩
  have B5 := Lib.hid (HB.out.trans (b5.mono HB.out.size))
  have v16 := mt_cell (K1'.out.below b5 K1'.out.lt) (j := 16) rfl
  have t16 := mt_cell (K2'.out.below b5 K2'.out.lt) (j := 16) rfl
  clear b5
  go_wp2_with fail
  go_ret
  rw [HS.out]
  refine ⟨?_, B5.out⟩
  simp
end
end Go.Proofs.YtbpkckahonmpkaaGreatDoor
namespace Go.Proofs.YtbpkckahonmpkaaGreatDoor
open Go.RowKit

/-- All orders that a region's edges allow. -/
def ordersAll (md : Region.Mode) (ops : Array Oper) : Nat → Array Bool → List (List Nat)
  | 0, _ => [[]]
  | fuel + 1, listed =>
    match Region.ready md ops listed with
    | [] => [[]]
    | r :: rs => (r :: rs).flatMap fun i => (ordersAll md ops fuel (listed.setIfInBounds i true)).map (i :: ·)
theorem order_mem (md : Region.Mode) (ops : Array Oper) : ∀ (fuel t : Nat) (listed : Array Bool), Region.linearise.go md ops fuel t listed [] ∈ ordersAll md ops fuel listed := by
  intro fuel
  induction fuel with
  | zero => intro t listed; simp [Region.linearise.go, ordersAll]
  | succ fuel ih =>
    intro t listed
    simp only [Region.linearise.go, ordersAll]
    change (match (Region.ready md ops listed)[t % (Region.ready md ops listed).length]? with
      | some i => Region.linearise.go md ops fuel (t / (Region.ready md ops listed).length) (listed.setIfInBounds i true) [i]
      | none => [].reverse) ∈ _
    cases hr : Region.ready md ops listed with
    | nil => simp
    | cons x xs =>
      have hlt : t % (x :: xs).length < (x :: xs).length := Nat.mod_lt _ (by simp)
      rw [List.getElem?_eq_getElem hlt]
      simp only
      rw [linearise_go_acc, List.reverse_singleton, List.singleton_append]
      exact List.mem_flatMap.2 ⟨_, List.getElem_mem hlt, List.mem_map.2 ⟨_, ih _ _, rfl⟩⟩
theorem wpOps_pick {P : Program} {Q : Exit → Act → World → Prop} (l : List Oper) : ∀ (o : List Nat) (a : Act) (w : World), wpList P l.toArray Q (o.filterMap (l[·]?)) a w → wpOps P l.toArray Q o a w
  | [], _, _, h => h
  | i :: o, a, w, h => by
    rw [wpOps_cons]
    unfold wpOp
    rw [List.getElem?_toArray]
    cases hi : l[i]? with
    | none =>
      rw [List.filterMap_cons_none hi] at h
      exact wpOps_pick l o a w h
    | some x =>
      rw [List.filterMap_cons_some hi] at h
      simp only
      unfold wpList at h
      split
      · rename_i hw
        rw [if_pos hw] at h
        exact h.imp (Oper.wp_mono (fun a w => wpOps_pick l o a w)) id
      · rename_i hw
        rw [if_neg hw] at h
        exact wpOps_pick l o _ _ h
theorem wp_region_orders {P : Program} {id : Nat} {Q : Exit → Act → World → Prop} {a : Act} {w : World} {l : List Oper} (os : List (List Nat)) (hm : P.follows .mixedOrders = true)
    (ho : ordersAll .any l.toArray l.length (Array.replicate l.length false) = os) (h : ∀ o ∈ os, wpList P l.toArray Q (o.filterMap (l[·]?)) a w.drew) : (Code.region id l.toArray true).wp P Q a w :=
  wp_region_draw fun t => by
    simp only [Region.schedule, hm, Bool.true_or, if_true]
    have := order_mem .any l.toArray l.toArray.size t (Array.replicate l.toArray.size false)
    rw [show l.toArray.size = l.length from by simp] at this
    rw [ho] at this
    have h2 := wpOps_pick l _ a w.drew (h _ this)
    rw [show l.length = l.toArray.size from by simp] at h2
    exact h2

/-- What follows a part of a region. -/
def joinQ (Q : Exit → Act → World → Prop) (R : Act → World → Prop) : Exit → Act → World → Prop
  | .normal, a, w => R a w
  | e, a, w => Q e a w
theorem Oper.wp_join {P : Program} {Q : Exit → Act → World → Prop} {R : Act → World → Prop} {o : Oper} {a : Act} {w : World} {K : Act → World → Prop} (h : o.wp P a w K (joinQ Q R)) : o.wp P a w K Q := by
  unfold Oper.wp at *
  generalize (execOp a.eval o).run P w = r at *
  cases r with
  | ok n w' =>
    cases n <;> simp only [Oper.upon] at h ⊢ <;>
      first
        | exact h
        | exact Calls.mono h (fun e w'' he => by cases e <;> exact he)
        | exact Rows.mono h (fun _ _ he => he)
  | halt x w' => cases x <;> simp only [Oper.upon] at h ⊢ <;> exact h
theorem wpList_join {P : Program} {ops : Array Oper} {Q : Exit → Act → World → Prop} {R : Act → World → Prop} (rest : List Oper) (hR : ∀ a w, R a w → wpList P ops Q rest a w) :
    ∀ (pre : List Oper) (a : Act) (w : World), wpList P ops (joinQ Q R) pre a w → wpList P ops Q (pre ++ rest) a w
  | [], a, w, h => hR a w h
  | o :: pre, a, w, h => by
    rw [List.cons_append]
    unfold wpList at h ⊢
    split
    · rename_i hw
      rw [if_pos hw] at h
      rcases h with h | h
      · exact .inl (Oper.wp_mono (fun a w => wpList_join rest hR pre a w) (Oper.wp_join h))
      · exact .inr h
    · rename_i hw
      rw [if_neg hw] at h
      exact wpList_join rest hR pre _ _ h
/-- A region that draws: its first operations in all their orders lead to one frame; what follows is walked once. -/
theorem wp_region_join {P : Program} {id : Nat} {Q : Exit → Act → World → Prop} {a : Act} {w : World} {l : List Oper} (pre : List (List Nat)) (rest : List Nat) (F : World → Prop) (a3 : Act) (hm : P.follows .mixedOrders = true)
    (ho : ordersAll .any l.toArray l.length (Array.replicate l.length false) = pre.map (· ++ rest))
    (h1 : ∀ o ∈ pre, wpList P l.toArray (joinQ Q fun a' w' => a' = a3 ∧ F w') (o.filterMap (l[·]?)) a w.drew)
    (h2 : ∀ w', F w' → wpList P l.toArray Q (rest.filterMap (l[·]?)) a3 w') : (Code.region id l.toArray true).wp P Q a w :=
  wp_region_orders _ hm ho fun o hm' => by
    obtain ⟨p, hp, rfl⟩ := List.mem_map.1 hm'
    rw [List.filterMap_append]
    exact wpList_join _ (fun a' w' ⟨ha, hw⟩ => by subst ha; exact h2 w' hw) _ _ _ (h1 p hp)
end Go.Proofs.YtbpkckahonmpkaaGreatDoor
