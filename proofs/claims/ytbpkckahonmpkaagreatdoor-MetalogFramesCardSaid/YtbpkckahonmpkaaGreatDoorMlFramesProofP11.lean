/-
  Layer 19: how entries are put, by the program and by the document.
  Layer 19: metalog's reader: how a transactional id is read.
-/
import Derived.Test.YtbpkckahonmpkaaGreatDoorMlFramesProofP10
import Derived.Deep.LoopGhost
set_option linter.unusedVariables false
set_option linter.unusedSimpArgs false
namespace Go.Proofs.YtbpkckahonmpkaaGreatDoor
open Go.RowKit
/-- So many pends that are nothing. -/
def zP (k : Nat) : List Pd := List.replicate k (0, 0, 0)
theorem zP_len (k : Nat) : (zP k).length = k := List.length_replicate
theorem zP_snoc (k : Nat) : zP k ++ [(0, 0, 0)] = zP (k + 1) := by unfold zP; rw [List.replicate_succ']
theorem mtX_qs1 (m : Mt) (v st pid ep tm th ag : Int) (ps : List Int) (l l' : List Pd) (A D : Option Addr) (c e : Nat) (h : l.length = l'.length) : mtX { m with tid := v, c := ⟨st, pid, ep, tm, th, ps, l, ag⟩ } A D c e = mtX { m with tid := v, c := ⟨st, pid, ep, tm, th, ps, l', ag⟩ } A D c e := by
  simp only [mtX, mtL, coL, h]
/-- A row's cells behind three stores. -/
theorem look3 {cur : Array Value} {k : Nat} {l : List Pd} (hl : l.length = k) (hs : k * 3 + 2 < cur.size) (h : ∀ j, j < k * 3 → cur[j]? = (cellsP l)[j]?) (p : Pd) :
    ∀ j, j < (k + 1) * 3 → (((cur.setIfInBounds (k * 3) (.int .i64 p.1)).setIfInBounds (k * 3 + 1) (.int .i64 p.2.1)).setIfInBounds (k * 3 + 2) (.int .i64 p.2.2))[j]? = (cellsP (l ++ [p]))[j]? := by
  intro j hj
  have hlc : (cellsP l).length = k * 3 := by rw [length_cellsP, hl]
  rw [cellsP_append]
  by_cases h1 : j < k * 3
  · rw [List.getElem?_append_left (by omega), ← h j h1, Array.getElem?_setIfInBounds, Array.getElem?_setIfInBounds, Array.getElem?_setIfInBounds, if_neg (by omega), if_neg (by omega), if_neg (by omega)]
  · rw [List.getElem?_append_right (by omega), hlc, cellsP_cons]
    have hcn : cellsP [] = [] := rfl
    rw [hcn]
    obtain rfl | rfl | rfl : j = k * 3 ∨ j = k * 3 + 1 ∨ j = k * 3 + 2 := by omega
    · rw [Nat.sub_self, Array.getElem?_setIfInBounds, if_neg (by omega), Array.getElem?_setIfInBounds, if_neg (by omega), Array.getElem?_setIfInBounds, if_pos rfl, if_pos (by omega)]; rfl
    · rw [show k * 3 + 1 - k * 3 = 1 by omega, Array.getElem?_setIfInBounds, if_neg (by omega), Array.getElem?_setIfInBounds, if_pos rfl, if_pos (by rw [Array.size_setIfInBounds]; omega)]; rfl
    · rw [show k * 3 + 2 - k * 3 = 2 by omega, Array.getElem?_setIfInBounds, if_pos rfl, if_pos (by rw [Array.size_setIfInBounds, Array.size_setIfInBounds]; omega)]; rfl
theorem reads_look {W : World} {bD : Nat} {t : TypeId} {cur : Array Value} {l : List Pd} {n : Nat} (hk : Blk W bD t cur) (hl : l.length = n) (h : ∀ j, j < n * 3 → cur[j]? = (cellsP l)[j]?) : Reads W W.heap.size 3 (some ⟨bD, 0, none⟩) n (cellsP l) := by
  refine ⟨by rw [length_cellsP, hl], fun _ => ⟨_, rfl, hk.lt, fun j u hu => ?_⟩⟩
  have hj : j < n * 3 := by have := (List.getElem?_eq_some_iff.1 hu).1; rw [length_cellsP, hl] at this; exact this
  rw [add_none, Nat.zero_add, hk.cell, h j hj, hu]
theorem reads_zero (w : World) (t : TypeId) (g : Nat) (hg : w.heap.size = g) : Reads (w.alloc (.cells #[.int .i64 0, .int .i64 0, .int .i64 0] t)) (g + 1) 3 (some ⟨g, 0, none⟩) 1 (cellsP [(0, 0, 0)]) := by
  subst hg
  refine ⟨by rw [length_cellsP]; rfl, fun _ => ⟨_, rfl, Nat.lt_succ_self _, fun j u hu => ?_⟩⟩
  rw [add_none, Nat.zero_add]
  rw [(Blk.new w t _).cell j]
  simpa [cellsP] using hu
theorem infoPdF : (Tryz.prog.info? 40).map (fun i => (i.zero, i.size, i.bytes)) = some (some (.agg #[.int .i64 0, .int .i64 0, .int .i64 0]), 3, 24) := by kernel_rfl
theorem rok_grown {W W' : World} {g i : Nat} {s : ByteArray} {b : Bool} {row : Option Nat} (h : ROk W g s i b) (k : W.grownBy W' row) (hr : ∀ x, row = some x → x ≠ g ∧ x ≠ 0) : ROk W' g s i b := by
  have hs := k.size
  refine ⟨Blk.grown h.1 k (fun e => (hr _ e.symm).1 rfl), h.2.1, (World.cell?_of_block (a := ⟨0, 0, none⟩) (k.block _ h.2.2.2.2.2.1 (fun e => (hr _ e.symm).2 rfl))).trans h.2.2.1, h.2.2.2.1, ?_, ?_, Nat.le_refl _⟩
  · exact Nat.lt_of_lt_of_le h.2.2.2.2.1 hs
  · exact Nat.lt_of_lt_of_le h.2.2.2.2.2.1 hs
def RsP (g b : Nat) (mm : Mt) (s : ByteArray) (j : Nat) (b' : Bool) (w : World) (e : Ending) (w' : World) : Prop :=
  e = .returned (.tuple #[]) ∧ ROk w' g s j b' ∧ (∃ D e', Blk w' b 42 (mtX mm none D 0 e') ∧ Reads w' w'.heap.size 3 D mm.c.qs.length (cellsP mm.c.qs) ∧ ∀ ad, 0 < mm.c.qs.length → D = some ad → w.heap.size ≤ ad.block) ∧ Only (fun x => x = g ∨ x = b) w w'
set_option maxRecDepth 100000 in
set_option maxHeartbeats 8000000 in
theorem rmstate (g b : Nat) (m : Mt) (s : ByteArray) (i : Nat) (bad : Bool) {v1 v2 v3 v4 v5 v6 v7 v9 : Int} {qs : List Pd} {j1 j2 j3 j4 j5 j6 j7 j8 j9 : Nat} {b1 b2 b3 b4 b5 b6 b7 b8 b9 : Bool} (hz1 : rdNum (lb s) i bad 0 2 = (v1, j1, b1)) (hz2 : rdNum (lb s) j1 b1 0 6 = (v2, j2, b2)) (hz3 : rdNum (lb s) j2 b2 0 8 = (v3, j3, b3)) (hz4 : rdNum (lb s) j3 b3 0 100 = (v4, j4, b4)) (hz5 : rdNum (lb s) j4 b4 0 20 = (v5, j5, b5)) (hz6 : rdNum (lb s) j5 b5 0 20 = (v6, j6, b6)) (hz7 : rdNum (lb s) j6 b6 0 6 = (v7, j7, b7)) (hz8 : rdRep rdPn v7.toNat (lb s) j7 b7 = (qs, j8, b8)) (hz9 : rdNum (lb s) j8 b8 0 1048576 = (v9, j9, b9))
    (w : World) (h : ROk w g s i bad) (hE : Blk w b 42 (mtX m none none 0 0)) (hbg : b ≠ g) (hbe : b ≠ 0) (hc : m.c = Co0) :
    Calls Tryz.prog 104 #[.agg #[.iface 128 (.agg #[.pointer (some ⟨g, 0, none⟩)]), .pointer (some ⟨b, 0, none⟩)]] w (RsP g b { m with tid := v1, c := ⟨v2, v3, v4, v5, v6, [], qs, v9⟩ } s j9 b9 w) := by
  obtain ⟨i0, hi, hi0, hi1, hi2⟩ := info_parts infoPdF
  obtain ⟨W0, hW0⟩ : ∃ W0, W0 = w.alloc (.cells #[.iface 128 (.agg #[.pointer (some ⟨g, 0, none⟩)]), .pointer (some ⟨b, 0, none⟩)] 114) := ⟨_, rfl⟩
  have KF0 := Lib.hid (show Blk W0 w.heap.size 114 #[.iface 128 (.agg #[.pointer (some ⟨g, 0, none⟩)]), .pointer (some ⟨b, 0, none⟩)] by rw [hW0]; exact Blk.new w 114 #[.iface 128 (.agg #[.pointer (some ⟨g, 0, none⟩)]), .pointer (some ⟨b, 0, none⟩)])
  have HS0 := Lib.hid (show ROk W0 g s i bad by rw [hW0]; exact rok_alloc h _)
  have KE0 := Lib.hid (show Blk W0 b 42 (mtX m none none 0 0) by rw [hW0]; exact hE.alloc _)
  have HO0 := Lib.hid (show Only (fun x => x = g ∨ x = b) w W0 by rw [hW0]; exact (Only.refl _ _).alloc _)
  have HBG := Lib.hid (And.intro hbg hbe)
  have HW := Lib.hid hW0
  have HFG := Lib.hid (show w.heap.size ≠ g ∧ w.heap.size ≠ b by have := h.2.2.2.2.1; have := hE.lt; omega)
  have HLO := Lib.hid (show g < w.heap.size ∧ b < w.heap.size ∧ 0 < w.heap.size from ⟨h.2.2.2.2.1, hE.lt, h.2.2.2.2.2.1⟩)
  have HV2 := Lib.hid (show 0 ≤ v2 ∧ v2 ≤ 6 by rcases rdNum_rng hz2 with h | h <;> omega)
  have HV7 := Lib.hid (show 0 ≤ v7 ∧ v7 ≤ 6 by rcases rdNum_rng hz7 with h | h <;> omega)
  have HCC := Lib.hid hc
  have HZ1 := Lib.hid hz1
  have HZ2 := Lib.hid hz2
  have HZ3 := Lib.hid hz3
  have HZ4 := Lib.hid hz4
  have HZ5 := Lib.hid hz5
  have HZ6 := Lib.hid hz6
  have HZ7 := Lib.hid hz7
  have HZ8 := Lib.hid hz8
  have HZ9 := Lib.hid hz9
  have wc8 : IntKind.i8.wrap v2 = v2 := IntWalk.i8_in _ (by have := HV2.out; omega)
  have NM := Lib.hid (rmtid g b m none none 0 0 s i bad HZ1.out W0 HS0.out KE0.out HBG.out.1 HBG.out.2)
  have xf0 : W0.cell? ⟨w.heap.size, 0, none⟩ = some (.iface 128 (.agg #[.pointer (some ⟨g, 0, none⟩)])) := KF0.out.cell 0
  have xf1 : W0.cell? ⟨w.heap.size, 1, none⟩ = some (.pointer (some ⟨b, 0, none⟩)) := KF0.out.cell 1
  clear hW0 h hE hbg hbe hc hz1 hz2 hz3 hz4 hz5 hz6 hz7 hz8 hz9
  go_enter Tryz.func104, Tryz.ntmps104
  go_upto_region 1 with (fail)
  rw [← HW.out]
  go_wp2_with fail
  refine NM.out.mono ?_
  rintro e w1 ⟨rfl, hs, hk, ho⟩
  have hk : Blk w1 b 42 (mtX { m with tid := v1, c := ⟨0, 0, 0, 0, 0, [], [], 0⟩ } none none 0 0) := by
    have e : ({ m with tid := v1 } : Mt) = { m with tid := v1, c := ⟨0, 0, 0, 0, 0, [], [], 0⟩ } := by obtain ⟨x0, x1, x2, x3, x4, x5, x6, x7⟩ := m; have := HCC.out; simp only at this; subst this; rfl
    rw [← e]; exact hk
  have xc : w1.cell? ⟨b, 8, none⟩ = some (.int .i8 0) := mt_cell hk (j := 8) rfl
  have yf0 := (ho.blk KF0.out (fun x => x.elim HFG.out.1 HFG.out.2)).cell 0
  have yf1 := (ho.blk KF0.out (fun x => x.elim HFG.out.1 HFG.out.2)).cell 1
  have n1 : w1.heap.size ≠ g ∧ w1.heap.size ≠ b ∧ w1.heap.size ≠ 0 := by have := HLO.out; have := HO0.out.size; have := ho.size; omega
  have N1 := Lib.hid n1
  have o2 := (HO0.out.trans ho).alloc (.cells #[.int .i64 0] 3)
  have kf2 := (ho.blk KF0.out (fun x => x.elim HFG.out.1 HFG.out.2)).alloc (.cells #[.int .i64 0] 3)
  have ke2 := hk.alloc (.cells #[.int .i64 0] 3)
  have kn2 := Blk.new w1 3 #[.int .i64 0]
  have hs2 := rok_alloc hs (.cells #[.int .i64 0] 3)
  obtain ⟨W2, hW2⟩ : ∃ W2, W2 = w1.alloc (.cells #[.int .i64 0] 3) := ⟨_, rfl⟩
  rw [← hW2] at o2 kf2 ke2 kn2 hs2
  have zf0 : (w1.alloc (.cells #[.int .i64 0] 3)).cell? ⟨w.heap.size, 0, none⟩ = some (.iface 128 (.agg #[.pointer (some ⟨g, 0, none⟩)])) := by rw [← hW2]; exact kf2.cell 0
  have HW2 := Lib.hid hW2
  have KF2 := Lib.hid kf2
  have KE2 := Lib.hid ke2
  have HO2 := Lib.hid o2
  have nm := rmnum g w1.heap.size 0 3 #[.int .i64 0] s j1 j2 b1 b2 0 6 v2 W2 hs2 kn2 (by decide) n1.1 n1.2.2 HZ2.out
  rw [hW2] at nm
  have NM := Lib.hid nm
  have HLS := Lib.hid (show w.heap.size < w1.heap.size by have := KF0.out.lt; have := ho.size; omega)
  clear xf0 xf1 hW2 kf2 ke2 kn2 o2 nm hs hk ho n1 hs2
  go_wp2_with fail
  refine NM.out.mono ?_
  rw [← HW2.out]
  rintro e w2 ⟨rfl, hs, hkn, ho⟩
  have zc : w2.cell? ⟨w1.heap.size, 0, none⟩ = some (.int .i64 v2) := hkn.cell 0
  have ke := ho.blk KE2.out (fun x => x.elim HBG.out.1 (Ne.symm N1.out.2.1))
  have xe := ke.cell 8
  have fe := ke.frozen 8
  have HS3 := Lib.hid (rok_far hs HBG.out.1 HBG.out.2 8 (.int .i8 v2))
  have KE3 := Lib.hid (show Blk (w2.setCell ⟨b, 8, none⟩ (.int .i8 v2)) b 42 (mtX { m with tid := v1, c := ⟨v2, 0, 0, 0, 0, [], [], 0⟩ } none none 0 0) from ke.set_ 8 (.int .i8 v2))
  have KF3 := Lib.hid ((ho.blk KF2.out (fun x => x.elim HFG.out.1 (fun y => by have := HLS.out; omega))).far (p := ⟨b, 8, none⟩) HFG.out.2 (.int .i8 v2))
  have HO3 := Lib.hid ((HO2.out.step ho (fun x hx hs => hs.elim .inl (fun y => by have := HLS.out; omega))).set (.inl (.inr rfl)) (o := 8) (.int .i8 v2))
  obtain ⟨W3, hW3⟩ : ∃ W3, W3 = w2.setCell ⟨b, 8, none⟩ (.int .i8 v2) := ⟨_, rfl⟩
  rw [← hW3] at KE3 KF3 HO3 HS3
  have HW3 := Lib.hid hW3
  clear hs ho ke hkn hW3 zf0 xc yf0 yf1
  have xf0 : W3.drew.cell? ⟨w.heap.size, 0, none⟩ = some (.iface 128 (.agg #[.pointer (some ⟨g, 0, none⟩)])) := KF3.out.drew.cell 0
  have NM := Lib.hid (rmnum g b 9 42 (mtX { m with tid := v1, c := ⟨v2, 0, 0, 0, 0, [], [], 0⟩ } none none 0 0) s j2 j3 b2 b3 0 8 v3 W3.drew (RdOk.drew HS3.out) KE3.out.drew (by rw [mtX_size]; decide) HBG.out.1 HBG.out.2 HZ3.out)
  go_wp2_with fail
  rw [← HW3.out]
  go_wp2_with fail
  refine wp_region_qtail 7 (by kernel_rfl) (by kernel_rfl) ?_
  simp only [List.take_succ_cons, List.take_zero, List.drop_succ_cons, List.drop_zero]
  repeat (go_big_quiet_step (fail))
  refine wpQuiet_nil ?_
  go_wp2_with fail
  refine NM.out.mono ?_
  rintro e w4 ⟨rfl, hs, hk, ho⟩
  have HS4 := Lib.hid hs
  have KE4 := Lib.hid (show Blk w4 b 42 (mtX { m with tid := v1, c := ⟨v2, v3, 0, 0, 0, [], [], 0⟩ } none none 0 0) from hk)
  have KF4 := Lib.hid (ho.blk KF3.out.drew (fun x => x.elim HFG.out.1 HFG.out.2))
  have HO4 := Lib.hid (HO3.out.drew.trans ho)
  clear hs ho hk xf0 NM zc xe fe
  have xf0 : w4.drew.cell? ⟨w.heap.size, 0, none⟩ = some (.iface 128 (.agg #[.pointer (some ⟨g, 0, none⟩)])) := KF4.out.drew.cell 0
  have NM := Lib.hid (rmnum g b 10 42 (mtX { m with tid := v1, c := ⟨v2, v3, 0, 0, 0, [], [], 0⟩ } none none 0 0) s j3 j4 b3 b4 0 100 v4 w4.drew (RdOk.drew HS4.out) KE4.out.drew (by rw [mtX_size]; decide) HBG.out.1 HBG.out.2 HZ4.out)
  go_wp2_with fail
  refine wp_region_qtail 7 (by kernel_rfl) (by kernel_rfl) ?_
  simp only [List.take_succ_cons, List.take_zero, List.drop_succ_cons, List.drop_zero]
  repeat (go_big_quiet_step (fail))
  refine wpQuiet_nil ?_
  go_wp2_with fail
  refine NM.out.mono ?_
  rintro e w5 ⟨rfl, hs, hk, ho⟩
  have HS5 := Lib.hid hs
  have KE5 := Lib.hid (show Blk w5 b 42 (mtX { m with tid := v1, c := ⟨v2, v3, v4, 0, 0, [], [], 0⟩ } none none 0 0) from hk)
  have KF5 := Lib.hid (ho.blk KF4.out.drew (fun x => x.elim HFG.out.1 HFG.out.2))
  have HO5 := Lib.hid (HO4.out.drew.trans ho)
  clear hs ho hk xf0 NM
  have xf0 : w5.drew.cell? ⟨w.heap.size, 0, none⟩ = some (.iface 128 (.agg #[.pointer (some ⟨g, 0, none⟩)])) := KF5.out.drew.cell 0
  have NM := Lib.hid (rmnum g b 11 42 (mtX { m with tid := v1, c := ⟨v2, v3, v4, 0, 0, [], [], 0⟩ } none none 0 0) s j4 j5 b4 b5 0 20 v5 w5.drew (RdOk.drew HS5.out) KE5.out.drew (by rw [mtX_size]; decide) HBG.out.1 HBG.out.2 HZ5.out)
  go_wp2_with fail
  refine wp_region_qtail 7 (by kernel_rfl) (by kernel_rfl) ?_
  simp only [List.take_succ_cons, List.take_zero, List.drop_succ_cons, List.drop_zero]
  repeat (go_big_quiet_step (fail))
  refine wpQuiet_nil ?_
  go_wp2_with fail
  refine NM.out.mono ?_
  rintro e w6 ⟨rfl, hs, hk, ho⟩
  have HS6 := Lib.hid hs
  have KE6 := Lib.hid (show Blk w6 b 42 (mtX { m with tid := v1, c := ⟨v2, v3, v4, v5, 0, [], [], 0⟩ } none none 0 0) from hk)
  have KF6 := Lib.hid (ho.blk KF5.out.drew (fun x => x.elim HFG.out.1 HFG.out.2))
  have HO6 := Lib.hid (HO5.out.drew.trans ho)
  clear hs ho hk xf0 NM
  have xf0 : w6.drew.cell? ⟨w.heap.size, 0, none⟩ = some (.iface 128 (.agg #[.pointer (some ⟨g, 0, none⟩)])) := KF6.out.drew.cell 0
  have NM := Lib.hid (rmnum g b 12 42 (mtX { m with tid := v1, c := ⟨v2, v3, v4, v5, 0, [], [], 0⟩ } none none 0 0) s j5 j6 b5 b6 0 20 v6 w6.drew (RdOk.drew HS6.out) KE6.out.drew (by rw [mtX_size]; decide) HBG.out.1 HBG.out.2 HZ6.out)
  go_wp2_with fail
  refine wp_region_qtail 7 (by kernel_rfl) (by kernel_rfl) ?_
  simp only [List.take_succ_cons, List.take_zero, List.drop_succ_cons, List.drop_zero]
  repeat (go_big_quiet_step (fail))
  refine wpQuiet_nil ?_
  go_wp2_with fail
  refine NM.out.mono ?_
  rintro e w7 ⟨rfl, hs, hk, ho⟩
  have HS7 := Lib.hid hs
  have KE7 := Lib.hid (show Blk w7 b 42 (mtX { m with tid := v1, c := ⟨v2, v3, v4, v5, v6, [], [], 0⟩ } none none 0 0) from hk)
  have KF7 := Lib.hid (ho.blk KF6.out.drew (fun x => x.elim HFG.out.1 HFG.out.2))
  have HO7 := Lib.hid (HO6.out.drew.trans ho)
  clear hs ho hk xf0 NM
  have xq : w7.cell? ⟨b, 14, none⟩ = some (.slice none 0 0) := mt_cell KE7.out (j := 14) rfl
  have n1 : w7.heap.size ≠ g ∧ w7.heap.size ≠ b ∧ w7.heap.size ≠ 0 := by have := HLO.out; have := HO7.out.size; omega
  have N7 := Lib.hid n1
  have o2 := HO7.out.alloc (.cells #[.int .i64 0] 3)
  have kf2 := KF7.out.alloc (.cells #[.int .i64 0] 3)
  have ke2 := KE7.out.alloc (.cells #[.int .i64 0] 3)
  have kn2 := Blk.new w7 3 #[.int .i64 0]
  have hs2 := rok_alloc HS7.out (.cells #[.int .i64 0] 3)
  obtain ⟨W8, hW8⟩ : ∃ W8, W8 = w7.alloc (.cells #[.int .i64 0] 3) := ⟨_, rfl⟩
  rw [← hW8] at o2 kf2 ke2 kn2 hs2
  have zf0 : (w7.alloc (.cells #[.int .i64 0] 3)).cell? ⟨w.heap.size, 0, none⟩ = some (.iface 128 (.agg #[.pointer (some ⟨g, 0, none⟩)])) := by rw [← hW8]; exact kf2.cell 0
  have HW8 := Lib.hid hW8
  have KF8 := Lib.hid kf2
  have KE8 := Lib.hid ke2
  have HO8 := Lib.hid o2
  have nm := rmnum g w7.heap.size 0 3 #[.int .i64 0] s j6 j7 b6 b7 0 6 v7 W8 hs2 kn2 (by decide) n1.1 n1.2.2 HZ7.out
  rw [hW8] at nm
  have NM := Lib.hid nm
  have HL7 := Lib.hid (show w.heap.size < w7.heap.size by have := KF7.out.lt; omega)
  clear hW8 kf2 ke2 kn2 o2 nm n1 hs2
  go_wp2_with fail
  refine NM.out.mono ?_
  rw [← HW8.out]
  rintro e w9 ⟨rfl, hs, hkn, ho⟩
  have KN9 := Lib.hid (show Blk w9 w7.heap.size 3 #[.int .i64 v7] from hkn)
  have KE9 := Lib.hid (ho.blk KE8.out (fun x => x.elim HBG.out.1 (Ne.symm N7.out.2.1)))
  have KF9 := Lib.hid (ho.blk KF8.out (fun x => x.elim HFG.out.1 (fun y => by have := HL7.out; omega)))
  have HO9 := Lib.hid (HO8.out.step ho (fun x hx hs => hs.elim .inl (fun y => by have := HL7.out; omega)))
  have HS9 := Lib.hid hs
  have HL9 := Lib.hid (show w7.heap.size < w9.heap.size from hkn.lt)
  clear hs ho hkn zf0 NM xq
  obtain ⟨nn, hnn⟩ : ∃ nn : Nat, v7 = (nn : Int) := Int.eq_ofNat_of_zero_le HV7.out.1
  have HNN := Lib.hid (show nn ≤ 6 by have := HV7.out.2; omega)
  have HV := Lib.hid hnn
  subst hnn
  go_wp2_with fail
  go_loopg [] nn (fun mm wq => ∃ (k : Nat) (D : Option Addr) (e : Nat), k ≤ nn ∧ mm = nn - k ∧ wq.ownsRow w9.heap.size 40 3 (.slice D k e) k (cellsP (zP k)) ∧ Blk wq b 42 (mtX { m with tid := v1, c := ⟨v2, v3, v4, v5, v6, [], zP k, 0⟩ } none D 0 e) ∧ ROk wq g s j7 b7 ∧ Blk wq w7.heap.size 3 #[.int .i64 (nn : Int)] ∧ Blk wq w.heap.size 114 #[.iface 128 (.agg #[.pointer (some ⟨g, 0, none⟩)]), .pointer (some ⟨b, 0, none⟩)] ∧ Only (fun x => x = b) w9 wq)
  case atStart => exact ⟨0, none, 0, Nat.zero_le _, rfl, World.ownsRow_nil _ _ _ _, KE9.out, HS9.out, KN9.out, KF9.out, Only.refl _ _⟩
  case round =>
    obtain ⟨k, D, e, hk, hmm, how, hke, hs, hkn, hkf, ho⟩ := hrel
    have HMM := Lib.hid hmm
    have OW := Lib.hid how
    have KEk := Lib.hid hke
    have HSk := Lib.hid hs
    have KNk := Lib.hid hkn
    have KFk := Lib.hid hkf
    have HOk := Lib.hid ho
    have xn : wr.drew.cell? ⟨w7.heap.size, 0, none⟩ = some (.int .i64 (nn : Int)) := hkn.drew.cell 0
    have xq : wr.drew.cell? ⟨b, 14, none⟩ = some (.slice D k e) := by have := mt_cell hke.drew (j := 14) rfl; rw [zP_len] at this; exact this
    clear hmm how hke hs hkn hkf ho
    by_cases hlt : k < nn
    · have d3 : decide ((k : Int) < (nn : Int)) = true := decide_eq_true (by omega)
      have hn6 := HNN.out
      have hbs : w9.heap.size ≤ wr.heap.size := HOk.out.size
      go_wp2_with fail
      refine wp_region_qtail 6 (by kernel_rfl) (by kernel_rfl) ?_
      simp only [List.take_succ_cons, List.take_zero, List.drop_succ_cons, List.drop_zero]
      repeat (go_big_quiet_step (fail))
      refine wpQuiet_nil ?_
      go_wp2_with (at_builtin; refine wpList_append_any _ rfl (.tmp 76) (.tmp 78) 27 rfl w9.heap.size 40 i0 _ 3 24 Tryz.underlying27 hi hi0 hi1 hi2 rfl (by decide) _ k _ (by rfl) (OW.out.drew.alloc _) _ _ 1 1 (cellsP [(0, 0, 0)]) (by rfl) (reads_zero wr.drew _ _ rfl) (cellsP_one _) (by unfold maxLen; omega) (by omega) (by simp; omega) ?_; intro v' w8 hown' hgrow hat'; obtain ⟨A8, c8, rfl, hc8⟩ := own_slice hown'; have k8 := (KEk.out.drew.alloc (.cells #[.int .i64 0, .int .i64 0, .int .i64 0] 40)).grown hgrow (fun e => by have := (OW.out.lt _ e.symm).1; have := HLO.out; have := HO9.out.size; omega); have z14 := k8.cell 14; have f14 := k8.frozen 14)
      have hlo : ∀ x, (Value.slice D k e).ownBlock = some x → w9.heap.size ≤ x := fun x hx => (OW.out.lt _ hx).1
      have hlo9 := HO9.out.size
      have hl := HLO.out
      have ho8 : Only (fun x => x = b) w9 (w8.setCell ⟨b, 14, none⟩ (.slice A8 (k + 1) c8)) := ((HOk.out.drew.alloc _).grown hgrow (fun x hx hl => by have := hlo x hx; omega)).set (.inl rfl) _
      have R1 := Lib.hid (show (w8.setCell ⟨b, 14, none⟩ (.slice A8 (k + 1) c8)).ownsRow w9.heap.size 40 3 (.slice A8 (k + 1) c8) (k + 1) (cellsP (zP (k + 1))) from by
        rw [← zP_snoc, cellsP_append]
        exact own_set hown' (by omega) _)
      have R2 := Lib.hid (show Blk (w8.setCell ⟨b, 14, none⟩ (.slice A8 (k + 1) c8)) b 42 (mtX { m with tid := v1, c := ⟨v2, v3, v4, v5, v6, [], zP (k + 1), 0⟩ } none A8 0 c8) from by
        have := k8.set_ 14 (.slice A8 (k + 1) c8)
        have e : (mtX { m with tid := v1, c := ⟨v2, v3, v4, v5, v6, [], zP k, 0⟩ } none D 0 e).setIfInBounds 14 (.slice A8 (k + 1) c8) = mtX { m with tid := v1, c := ⟨v2, v3, v4, v5, v6, [], zP (k + 1), 0⟩ } none A8 0 c8 := by
          have hz : (zP (k + 1)).length = k + 1 := zP_len _
          simp only [mtX, mtL, coL, hz]
          rfl
        rw [← e]; exact this)
      have R3 := Lib.hid (show ROk (w8.setCell ⟨b, 14, none⟩ (.slice A8 (k + 1) c8)) g s j7 b7 from rok_far (rok_grown (rok_alloc (RdOk.drew HSk.out) (.cells #[.int .i64 0, .int .i64 0, .int .i64 0] 40)) hgrow (fun x hx => by have := hlo x hx; omega)) HBG.out.1 HBG.out.2 14 _)
      have R4 := Lib.hid (ho8.blk KN9.out (Ne.symm (fun x => N7.out.2.1 x.symm)))
      have R5 := Lib.hid (ho8.blk KF9.out HFG.out.2)
      have R6 := Lib.hid ho8
      clear hown' hgrow k8 hlo hlo9 hl ho8 z14 f14 xn xq
      go_wp2_with fail
      go_roundg (nn - k - 1)
      case measure => have := HMM.out; omega
      case rel => exact ⟨k + 1, A8, c8, by omega, by omega, R1.out, R2.out, R3.out, R4.out, R5.out, R6.out⟩
    · have hkn : k = nn := by omega
      subst hkn
      have d3 : decide ((k : Int) < (k : Int)) = false := decide_eq_false (by omega)
      go_wp2_with fail
      refine wp_region_qtail 6 (by kernel_rfl) (by kernel_rfl) ?_
      simp only [List.take_succ_cons, List.take_zero, List.drop_succ_cons, List.drop_zero]
      repeat (go_big_quiet_step (fail))
      refine wpQuiet_nil ?_
      go_wp2_with fail
      clear xn xq
      have OW10 := Lib.hid (show wr.drew.ownsRow w9.heap.size 40 3 (.slice D k e) k (cellsP (zP k)) from OW.out.drew)
      have KE10 := Lib.hid KEk.out.drew
      have KF10 := Lib.hid KFk.out.drew
      have HO10 := Lib.hid HOk.out.drew
      have HS10 := Lib.hid (show ROk wr.drew g s j7 b7 from RdOk.drew HSk.out)
      obtain ⟨W10, hW10⟩ : ∃ W10, W10 = wr.drew := ⟨_, rfl⟩
      rw [← hW10] at OW10 KE10 KF10 HO10 HS10 ⊢
      clear hW10 OW KEk KFk HOk HSk KNk
      obtain ⟨bD, hbD, hrow⟩ : ∃ bD, w9.heap.size ≤ bD ∧ (0 < k → D = some ⟨bD, 0, none⟩ ∧ ∃ cur, Blk W10 bD 40 cur ∧ k * 3 ≤ cur.size) := by
        rcases OW10.out.2 with ⟨h1, h2⟩ | ⟨gg, cap, cur, h1, h2, h3, h4, h5, h6, h7⟩
        · exact ⟨w9.heap.size, Nat.le_refl _, fun h => by omega⟩
        · injection h1 with h1 h1' h1''
          exact ⟨gg, h2, fun _ => ⟨h1, cur, h3, by rw [h6]; omega⟩⟩
      have HROW := Lib.hid hrow
      have HNE := Lib.hid (show bD ≠ g ∧ bD ≠ b ∧ bD ≠ 0 ∧ bD ≠ w.heap.size by have := HLO.out; have := HO9.out.size; have := HL9.out; have := HL7.out; omega)
      have hn6 := HNN.out
      have xq : W10.cell? ⟨b, 14, none⟩ = some (.slice D k e) := by have := mt_cell KE10.out (j := 14) rfl; rw [zP_len] at this; exact this
      clear hrow
      go_wp2_with fail
      clear xq
      go_loopg [87] k (fun mm y wq => ∃ (q : Nat) (l : List Pd) (jq : Nat) (bq : Bool), q ≤ k ∧ y = .int .i64 q ∧ mm = k - q ∧ rdRep rdPn q (lb s) j7 b7 = (l, jq, bq) ∧ ROk wq g s jq bq ∧ Blk wq b 42 (mtX { m with tid := v1, c := ⟨v2, v3, v4, v5, v6, [], zP k, 0⟩ } none D 0 e) ∧ Blk wq w.heap.size 114 #[.iface 128 (.agg #[.pointer (some ⟨g, 0, none⟩)]), .pointer (some ⟨b, 0, none⟩)] ∧ (0 < k → ∃ cur, Blk wq bD 40 cur ∧ k * 3 ≤ cur.size ∧ ∀ j, j < q * 3 → cur[j]? = (cellsP l)[j]?) ∧ Only (fun x => x = g ∨ x = bD) W10 wq)
      case atStart => exact ⟨0, [], j7, b7, Nat.zero_le _, rfl, rfl, rfl, HS10.out, KE10.out, KF10.out, fun h => by obtain ⟨_, cur, hk, hs⟩ := HROW.out h; exact ⟨cur, hk, hs, fun j hj => absurd hj (by omega)⟩, Only.refl _ _⟩
      case round =>
        obtain ⟨q, l, jq, bq, hqk, rfl, hmq, hrep, hs, hke, hkf, hcur, ho⟩ := hrel
        have HMQ := Lib.hid hmq
        have HREP := Lib.hid hrep
        have HSq := Lib.hid hs
        have KEq := Lib.hid hke
        have KFq := Lib.hid hkf
        have HCQ := Lib.hid hcur
        have HOq := Lib.hid ho
        clear hmq hrep hs hke hkf hcur ho
        by_cases hlt : q < k
        · have d4 : decide ((q : Int) < (k : Int)) = true := decide_eq_true (by omega)
          have y1 : (0 : Int) ≤ (q : Int) := by omega
          have y2 : (q : Int) < (k : Int) := by omega
          obtain ⟨cur, kc, hsz, hlk⟩ := HCQ.out (by omega)
          obtain ⟨p1, i1, c1, hza⟩ : ∃ v i' b', rdNum (lb s) jq bq 0 1 = (v, i', b') := ⟨_, _, _, rfl⟩
          obtain ⟨p2, i2, c2, hzb⟩ : ∃ v i' b', rdNum (lb s) i1 c1 0 2 = (v, i', b') := ⟨_, _, _, rfl⟩
          obtain ⟨p3, i3, c3, hzc⟩ : ∃ v i' b', rdNum (lb s) i2 c2 0 1048576 = (v, i', b') := ⟨_, _, _, rfl⟩
          have hnx : rdRep rdPn (q + 1) (lb s) j7 b7 = (l ++ [(p1, p2, p3)], i3, c3) := by
            rw [rdRep_snoc, HREP.out]
            have hza' : rdNum (lb s) jq bq ((0 : Nat) : Int) ((1 : Nat) : Int) = (p1, i1, c1) := hza
            have hzb' : rdNum (lb s) i1 c1 ((0 : Nat) : Int) ((2 : Nat) : Int) = (p2, i2, c2) := hzb
            have hzc' : rdNum (lb s) i2 c2 ((0 : Nat) : Int) ((1048576 : Nat) : Int) = (p3, i3, c3) := hzc
            simp only [rdPn, rI, rdMap, rdBind, hza', hzb', hzc']
          have hll : l.length = q := by have := rdRep_len rdPn q (lb s) j7 b7; rw [HREP.out] at this; exact this
          have NM := Lib.hid (rmpend g bD (q * 3) 40 (.pointer (some ⟨b, 0, none⟩)) cur s jq i1 i2 i3 bq c1 c2 c3 p1 p2 p3 wr.drew (RdOk.drew HSq.out) kc.drew (by omega) HNE.out.1 HNE.out.2.2.1 hza hzb hzc)
          have HNX := Lib.hid hnx
          have HLL := Lib.hid hll
          have HLK := Lib.hid (And.intro hsz hlk)
          have xq : wr.drew.cell? ⟨b, 14, none⟩ = some (.slice D k e) := by have := mt_cell KEq.out.drew (j := 14) rfl; rw [zP_len] at this; exact this
          rw [(HROW.out (by omega)).1] at xq
          have xf0 : wr.drew.cell? ⟨w.heap.size, 0, none⟩ = some (.iface 128 (.agg #[.pointer (some ⟨g, 0, none⟩)])) := KFq.out.drew.cell 0
          have xf1 : wr.drew.cell? ⟨w.heap.size, 1, none⟩ = some (.pointer (some ⟨b, 0, none⟩)) := KFq.out.drew.cell 1
          clear hza hzb hzc hnx hll hsz hlk kc
          go_wp2_with fail
          refine wp_region_qtail 7 (by kernel_rfl) (by kernel_rfl) ?_
          simp only [List.take_succ_cons, List.take_zero, List.drop_succ_cons, List.drop_zero]
          repeat (go_big_quiet_step (fail))
          refine wpQuiet_nil ?_
          go_wp2_with fail
          refine NM.out.mono ?_
          rintro e w11 ⟨rfl, hs, hk, ho⟩
          have R1 := Lib.hid hs
          have R2 := Lib.hid (ho.blk KEq.out.drew (fun x => x.elim HBG.out.1 (Ne.symm HNE.out.2.1)))
          have R3 := Lib.hid (ho.blk KFq.out.drew (fun x => x.elim HFG.out.1 (Ne.symm HNE.out.2.2.2)))
          have R4 := Lib.hid (show ∃ cur, Blk w11 bD 40 cur ∧ k * 3 ≤ cur.size ∧ ∀ j, j < (q + 1) * 3 → cur[j]? = (cellsP (l ++ [(p1, p2, p3)]))[j]? from ⟨_, hk, by simp only [Array.size_setIfInBounds]; exact HLK.out.1, look3 HLL.out (by have := HLK.out.1; omega) HLK.out.2 (p1, p2, p3)⟩)
          have R5 := Lib.hid (HOq.out.drew.trans ho)
          clear hs hk ho xq xf0 xf1 NM
          go_wp2_with fail
          go_roundg (k - q - 1)
          case measure => have := HMQ.out; omega
          case rel => exact ⟨q + 1, l ++ [(p1, p2, p3)], i3, c3, by omega, by (first | rfl | (rw [IntWalk.wrap64_in _ (by omega)]; rfl) | (rw [IntWalk.i64_in _ (by omega)]; rfl)), by omega, HNX.out, R1.out, R2.out, R3.out, fun _ => R4.out, R5.out⟩
        · have hqk : q = k := by omega
          subst hqk
          have d4 : decide ((q : Int) < (q : Int)) = false := decide_eq_false (by omega)
          have h8 : (l, jq, bq) = (qs, j8, b8) := by rw [← HREP.out, ← HZ8.out, Int.toNat_natCast]
          injection h8 with h81 h82
          injection h82 with h82 h83
          subst h81; subst h82; subst h83
          have hll : l.length = q := by have := rdRep_len rdPn q (lb s) j7 b7; rw [HREP.out] at this; exact this
          have HLL := Lib.hid hll
          have NM := Lib.hid (rmnum g b 15 42 (mtX { m with tid := v1, c := ⟨v2, v3, v4, v5, v6, [], zP q, 0⟩ } none D 0 e) s jq j9 bq b9 0 1048576 v9 wr.drew (RdOk.drew HSq.out) KEq.out.drew (by rw [mtX_size]; decide) HBG.out.1 HBG.out.2 HZ9.out)
          have xf0 : wr.drew.cell? ⟨w.heap.size, 0, none⟩ = some (.iface 128 (.agg #[.pointer (some ⟨g, 0, none⟩)])) := KFq.out.drew.cell 0
          clear hll
          go_wp2_with fail
          refine wp_region_qtail 7 (by kernel_rfl) (by kernel_rfl) ?_
          simp only [List.take_succ_cons, List.take_zero, List.drop_succ_cons, List.drop_zero]
          repeat (go_big_quiet_step (fail))
          refine wpQuiet_nil ?_
          go_wp2_with fail
          refine NM.out.mono ?_
          rintro e' w11 ⟨rfl, hs, hk, ho⟩
          have R1 := Lib.hid hs
          have R2 := Lib.hid (show Blk w11 b 42 (mtX { m with tid := v1, c := ⟨v2, v3, v4, v5, v6, [], l, v9⟩ } none D 0 e) from by
            rw [mtX_qs1 m v1 v2 v3 v4 v5 v6 v9 [] l (zP q) none D 0 e (by rw [HLL.out, zP_len])]
            exact hk)
          have R3 := Lib.hid (show Reads w11 w11.heap.size 3 D l.length (cellsP l) from by
            by_cases h0 : 0 < q
            · obtain ⟨cur, kc, hsz, hlk⟩ := HCQ.out h0
              rw [(HROW.out h0).1, HLL.out]
              exact reads_look (ho.blk kc.drew (fun x => x.elim HNE.out.1 HNE.out.2.1)) HLL.out hlk
            · have : l = [] := List.eq_nil_of_length_eq_zero (by have := HLL.out; omega)
              subst this
              exact ⟨rfl, fun h => absurd h (by decide)⟩)
          have R5 := Lib.hid (((HO9.out.trans (HO10.out.mono (fun x _ hx => .inr hx))).step HOq.out.drew (fun x hx hs => hs.elim .inl (fun y => by have := HLO.out; have := HO9.out.size; have := HL9.out; have := HL7.out; omega))).trans ho)
          clear hs hk ho xf0 NM
          go_wp2_with fail
          go_end0
          exact ⟨rfl, R1.out, ⟨D, e, R2.out, R3.out, fun ad h0 hd => by
            have h0 : 0 < l.length := h0
            rw [(HROW.out (by have := HLL.out; omega)).1] at hd
            injection hd with hd
            subst hd
            show w.heap.size ≤ bD
            have := HL9.out; have := HL7.out; omega⟩, R5.out⟩
end Go.Proofs.YtbpkckahonmpkaaGreatDoor
namespace Go.Proofs.YtbpkckahonmpkaaGreatDoor
open Go.RowKit
def metaName (t : Int) : ByteArray := if t = 0 then ⟨#[105, 109]⟩ else if t = 1 then ⟨#[98, 109]⟩ else ⟨#[]⟩
theorem metaName_ne {t : Int} (h : ¬ metaName t = ⟨#[]⟩) : (metaName t).toList.isEmpty = false := by
  unfold metaName at *
  split at h
  · rw [if_pos (by assumption), toList_lb]; rfl
  · rename_i h0
    rw [if_neg h0]
    split at h
    · rw [if_pos (by assumption), toList_lb]; rfl
    · exact absurd rfl h
theorem nLetter_any (t : Int) (w : World) : Calls Tryz.prog 80 #[.int .i8 t] w fun e w' => e = .returned (.string (if t = 0 then ⟨#[105]⟩ else if t = 1 then ⟨#[98]⟩ else ⟨#[]⟩)) ∧ w = w' := by
  by_cases h0 : t = 0
  · subst h0
    go_enter Tryz.func80, Tryz.ntmps80
    go_wp2_with fail
    go_ret
    exact ⟨rfl, rfl⟩
  · have c0 : (t == 0) = false := by simpa using h0
    by_cases h1 : t = 1
    · subst h1
      go_enter Tryz.func80, Tryz.ntmps80
      go_wp2_with fail
      go_ret
      exact ⟨rfl, rfl⟩
    · have c1 : (t == 1) = false := by simpa using h1
      rw [if_neg h0, if_neg h1]
      clear h0 h1
      go_enter Tryz.func80, Tryz.ntmps80
      go_wp2_with fail
      go_ret
      exact ⟨rfl, rfl⟩
theorem nMeta_any (t : Int) (w : World) : Calls Tryz.prog 50 #[.int .i8 t] w fun e w' => e = .returned (.string (metaName t)) ∧ w = w' := by
  have HL := Lib.hid (fun W => nLetter_any t W)
  unfold metaName
  by_cases h0 : t = 0
  · rw [if_pos h0] at HL ⊢
    clear h0
    go_enter Tryz.func50, Tryz.ntmps50
    go_wp2_with (go_at_call 80; refine (HL.out _).mono ?_; rintro e w1 ⟨rfl, rfl⟩)
    go_ret
    exact ⟨rfl, rfl⟩
  rw [if_neg h0] at HL ⊢
  by_cases h1 : t = 1
  · rw [if_pos h1] at HL ⊢
    clear h0 h1
    go_enter Tryz.func50, Tryz.ntmps50
    go_wp2_with (go_at_call 80; refine (HL.out _).mono ?_; rintro e w1 ⟨rfl, rfl⟩)
    go_ret
    exact ⟨rfl, rfl⟩
  rw [if_neg h1] at HL ⊢
  clear h0 h1
  go_enter Tryz.func50, Tryz.ntmps50
  go_wp2_with (go_at_call 80; refine (HL.out _).mono ?_; rintro e w1 ⟨rfl, rfl⟩)
  go_ret
  exact ⟨rfl, rfl⟩
theorem and255M (x : Int) (h0 : 0 ≤ x) (h1 : x < 2 ^ 62) : bits .and .i64 x 255 = x % 256 :=
  bits_mask .i64 62 (by decide) wraps_i64 8 (by decide) x h0 h1
set_option maxHeartbeats 400000 in
theorem rfBytes_ok (s : ByteArray) (w : World) (hl : s.size ≤ 1024) :
    Calls Tryz.prog 27 #[.string s] w fun e w' => e = .returned (.tuple #[.string (bs (headOf s.size ++ lb s)), .int .i64 0]) ∧ Below w.heap.size w w' := by
  have h1 : bits .and .i64 (s.size : Int) 255 = (s.size : Int) % 256 := and255M _ (by omega) (by omega)
  have h2 : bits .and .i64 ((s.size : Int) / 256) 255 = (s.size : Int) / 256 := by rw [and255M _ (by omega) (by omega)]; omega
  have hns : (bs (headOf s.size)).size = 4 := by rw [size_bs]; rfl
  have hcv := fun w => conv_head s.size hl w 5
  go_enter Tryz.func27, Tryz.ntmps27
  go_wp2
  go_ret2
  refine ⟨?_, (Below.refl _ _).alloc (Nat.le_refl _) _⟩
  rw [← bs_append, bs_lb]
  rfl
/-- Operations: what, the file's name, bytes. -/
abbrev Wr := Int × ByteArray × ByteArray
def cellsQ (l : List Wr) : List Value := l.flatMap fun p => [.int .i8 p.1, .string p.2.1, .string p.2.2, .int .i64 0]
theorem cellsQ_append (l m : List Wr) : cellsQ (l ++ m) = cellsQ l ++ cellsQ m := by simp [cellsQ]
theorem cellsQ_cons (p : Wr) (l : List Wr) : cellsQ (p :: l) = .int .i8 p.1 :: .string p.2.1 :: .string p.2.2 :: .int .i64 0 :: cellsQ l := by simp [cellsQ]
theorem length_cellsQ : ∀ l : List Wr, (cellsQ l).length = l.length * 4
  | [] => rfl
  | p :: l => by rw [cellsQ_cons, List.length_cons, List.length_cons, List.length_cons, List.length_cons, length_cellsQ l, List.length_cons]; omega
theorem cellsQ_one (l : List Wr) : ∀ u ∈ cellsQ l, u.oneCell' = true := by
  intro u hu
  simp only [cellsQ, List.mem_flatMap] at hu
  obtain ⟨p, _, hu⟩ := hu
  simp at hu
  rcases hu with rfl | rfl | rfl | rfl <;> rfl
theorem cellsQ_at : ∀ (l : List Wr) (i : Nat) (p : Wr), l[i]? = some p → (cellsQ l)[i * 4]? = some (.int .i8 p.1) ∧ (cellsQ l)[i * 4 + 1]? = some (.string p.2.1) ∧ (cellsQ l)[i * 4 + 2]? = some (.string p.2.2) ∧ (cellsQ l)[i * 4 + 3]? = some (.int .i64 0)
  | [], i, p, h => by simp at h
  | q :: l, 0, p, h => by
    simp at h
    subst h
    rw [cellsQ_cons]
    exact ⟨rfl, rfl, rfl, rfl⟩
  | q :: l, i + 1, p, h => by
    have := cellsQ_at l i p (by simpa using h)
    rw [cellsQ_cons, show (i + 1) * 4 = i * 4 + 1 + 1 + 1 + 1 by omega]
    simpa using this
theorem Reads.plainQ {w : World} {B n : Nat} {A : Option Addr} {l : List Wr} (h : Reads w B 4 A n (cellsQ l)) (hn : 0 < n) :
    ∃ b off, A = some ⟨b, off, none⟩ ∧ b < B ∧ ∀ i p, l[i]? = some p → w.cell? ⟨b, off + i * 4, none⟩ = some (.int .i8 p.1) ∧ w.cell? ⟨b, off + i * 4 + 1, none⟩ = some (.string p.2.1) ∧ w.cell? ⟨b, off + i * 4 + 2, none⟩ = some (.string p.2.2) ∧ w.cell? ⟨b, off + i * 4 + 3, none⟩ = some (.int .i64 0) := by
  obtain ⟨ad, rfl, hb, hc⟩ := h.2 hn
  obtain ⟨b, off, spot⟩ := ad
  have hl : 0 < (cellsQ l).length := by have := h.1; omega
  have h0 := hc 0 _ (List.getElem?_eq_getElem hl)
  have hs : spot = none := by simpa [Addr.add] using World.cell?_spot h0
  subst hs
  refine ⟨b, off, rfl, hb, fun i p hp => ?_⟩
  obtain ⟨h1, h2, h3, h4⟩ := cellsQ_at l i p hp
  have k1 := hc _ _ h1
  have k2 := hc _ _ h2
  have k3 := hc _ _ h3
  have k4 := hc _ _ h4
  rw [add_none] at k1 k2 k3 k4
  exact ⟨k1, by rw [Nat.add_assoc]; exact k2, by rw [Nat.add_assoc]; exact k3, by rw [Nat.add_assoc]; exact k4⟩
theorem reads_wr (w : World) (t : TypeId) (p : Wr) (g : Nat) (hg : w.heap.size = g) : Reads (w.alloc (.cells #[.int .i8 p.1, .string p.2.1, .string p.2.2, .int .i64 0] t)) (g + 1) 4 (some ⟨g, 0, none⟩) 1 (cellsQ [p]) := by
  subst hg
  refine ⟨by rw [length_cellsQ]; rfl, fun _ => ⟨_, rfl, Nat.lt_succ_self _, fun j u hu => ?_⟩⟩
  rw [add_none, Nat.zero_add]
  rw [(Blk.new w t _).cell j]
  simpa [cellsQ] using hu
theorem infoWr : (Tryz.prog.info? 57).map (fun i => (i.zero, i.size, i.bytes)) = some (some (.agg #[.int .i8 0, .string ⟨#[]⟩, .string ⟨#[]⟩, .int .i64 0]), 4, 48) := by kernel_rfl
def frOf (b : ByteArray) : ByteArray := bs (headOf b.size ++ lb b)
def rowsQ (nm : ByteArray) (l : List Mt) : List Wr := l.map fun m => (0, nm, frOf (bs (encM m)))
theorem rowsQ_len (nm : ByteArray) (l : List Mt) : (rowsQ nm l).length = l.length := by simp [rowsQ]
noncomputable def putM (t : Int) (l : List Mt) : List Wr × Int :=
  if metaName t = ⟨#[]⟩ ∨ l.length = 0 then ([], 2) else if l.all mayM = true then (rowsQ (metaName t) l ++ [(1, metaName t, ⟨#[]⟩)], 0) else ([], 2)
def PuP (r : List Wr) (n : Int) (w : World) (e : Ending) (w' : World) : Prop := ∃ A c, e = .returned (.tuple #[.slice A r.length c, .int .i64 n]) ∧ Reads w' w'.heap.size 4 A r.length (cellsQ r) ∧ Below w.heap.size w w'
theorem all_take {l : List MtM} {k : Nat} {y : MtM} (hy : l[k]? = some y) (h : ((l.take k).map (·.x)).all mayM = true) (hm : mayM y.x = true) : ((l.take (k + 1)).map (·.x)).all mayM = true := by
  rw [List.take_add_one, hy]
  simp only [Option.toList_some, List.map_append, List.map_cons, List.map_nil, List.all_append, h, List.all_cons, hm, List.all_nil, Bool.and_true]
theorem rowsQ_take {nm : ByteArray} {l : List MtM} {k : Nat} {y : MtM} (hy : l[k]? = some y) : rowsQ nm ((l.take k).map (·.x)) ++ [(0, nm, frOf (bs (encM y.x)))] = rowsQ nm ((l.take (k + 1)).map (·.x)) := by
  rw [List.take_add_one, hy]
  simp [rowsQ]
theorem putM_bad {t : Int} {l : List MtM} {k : Nat} {y : MtM} (hy : l[k]? = some y) (hm : mayM y.x = false) : putM t (l.map (·.x)) = ([], 2) := by
  unfold putM
  split
  · rfl
  · rw [if_neg]
    intro h
    have := List.all_eq_true.1 h y.x (List.mem_map_of_mem (List.mem_of_getElem? hy))
    rw [hm] at this
    cases this
theorem bs_enc_size {m : Mt} (h : mayM m = true) : (bs (encM m)).size ≤ 1024 := by rw [size_bs]; have := encM_len h; omega
section
attribute [-go_sem] loadCells storeVar
set_option maxRecDepth 100000 in
set_option maxHeartbeats 8000000 in
theorem mlPut_any (t : Int) (l : List MtM) (A : Option Addr) (c : Nat) (w : World) (hg : HasET w) (hr : Reads w w.heap.size 17 A l.length (cellsE l)) (hl : MtsR w w.heap.size l) (hn : l.length ≤ 1000) :
    Calls Tryz.prog 23 #[.int .i8 t, .slice A l.length c] w (PuP (putM t (l.map (·.x))).1 (putM t (l.map (·.x))).2 w) := by
  obtain ⟨i0, hi, hi0, hi1, hi2⟩ := info_parts infoWr
  have NM := Lib.hid (nMeta_any t w)
  have HR := Lib.hid hr
  have HL := Lib.hid hl
  have HN := Lib.hid hn
  have HG := Lib.hid hg
  obtain ⟨nm, hnm⟩ : ∃ nm, metaName t = nm := ⟨_, rfl⟩
  rw [hnm] at NM
  have HNM := Lib.hid hnm
  clear hr hl hn hg hnm
  by_cases hb : nm = ⟨#[]⟩ ∨ l.length = 0
  · have hP : putM t (l.map (·.x)) = ([], 2) := by unfold putM; rw [HNM.out, List.length_map, if_pos hb]
    rw [hP]
    clear hP
    by_cases h1 : nm = ⟨#[]⟩
    · subst h1
      clear hb
      go_enter Tryz.func23, Tryz.ntmps23
      go_wp2_with (go_at_call 50; refine NM.out.mono ?_; rintro e w1 ⟨rfl, rfl⟩)
      go_ret2
      exact ⟨none, 0, rfl, Reads.none_, Below.refl _ _⟩
    · have h2 : l.length = 0 := by rcases hb with h | h; exact absurd h h1; exact h
      have c1 : nm.toList.isEmpty = false := by rw [← HNM.out] at h1 ⊢; exact metaName_ne h1
      rw [h2]
      clear hb h1 h2
      go_enter Tryz.func23, Tryz.ntmps23
      go_wp2_with (go_at_call 50; refine NM.out.mono ?_; rintro e w1 ⟨rfl, rfl⟩)
      go_ret2
      exact ⟨none, 0, rfl, Reads.none_, Below.refl _ _⟩
  · have h1 : ¬ nm = ⟨#[]⟩ := fun h => hb (.inl h)
    have h2 : 0 < l.length := by rcases Nat.eq_zero_or_pos l.length with h | h; exact absurd (.inr h) hb; exact h
    have c1 : nm.toList.isEmpty = false := by have h := h1; rw [← HNM.out] at h ⊢; exact metaName_ne h
    have c2 : ((l.length : Int) == 0) = false := beq_eq_false_iff_ne.2 (by omega)
    have HB2 := Lib.hid hb
    obtain ⟨b, off, hA, hbB, hcells⟩ := HR.out.plainE h2
    have HC := Lib.hid hcells
    have HBB := Lib.hid hbB
    clear hb h1 hcells hbB
    subst hA
    go_enter Tryz.func23, Tryz.ntmps23
    go_wp2_with (go_at_call 50; refine NM.out.mono ?_; rintro e w1 ⟨rfl, rfl⟩)
    clear c1 c2
    go_loopg [7, 25] l.length (fun mm v y wq => ∃ k : Nat, k ≤ l.length ∧ y = .int .i64 k ∧ mm = l.length - k ∧ ((l.take k).map (·.x)).all mayM = true ∧ wq.ownsRow w.heap.size 57 4 v k (cellsQ (rowsQ nm ((l.take k).map (·.x)))) ∧ Below w.heap.size w wq)
    case atStart => exact ⟨0, Nat.zero_le _, rfl, rfl, rfl, World.ownsRow_nil _ _ _ _, Below.refl _ _⟩
    case round =>
      obtain ⟨k, hk, rfl, hmm, hall, how, hbw⟩ := hrel
      have HMM := Lib.hid hmm
      have HALL := Lib.hid hall
      have OW := Lib.hid how
      have BW' := Lib.hid hbw
      clear hmm hall how hbw
      by_cases hlt : k < l.length
      · have d1 : decide ((k : Int) < (l.length : Int)) = true := decide_eq_true (by omega)
        have i1 : (0 : Int) ≤ (k : Int) := by omega
        have i2 : (k : Int) < (l.length : Int) := by omega
        obtain ⟨y, hy⟩ : ∃ y, l[k]? = some y := ⟨_, List.getElem?_eq_getElem hlt⟩
        have HY := Lib.hid hy
        obtain ⟨b1, o1, hA1, _, hc1⟩ := (HR.out.below BW'.out).plainE (by omega)
        injection hA1 with hA1
        injection hA1 with e1 e2
        subst e1; subst e2
        have ld := hc1 k y hy
        clear hc1
        obtain ⟨W1, st1, k1, b1, s1⟩ := bk_fresh (P := Tryz.prog) wr 42 #[.int .i8 0, .int .i64 0, .int .i64 0, .int .i64 0, .int .i64 0, .int .i64 0, .bool false, .int .i64 0, .int .i8 0, .int .i64 0, .int .i64 0, .int .i64 0, .int .i64 0, .slice none 0 0, .slice none 0 0, .int .i64 0, .int .i64 0] (mtX y.x y.A y.D y.c y.e) 17 infoMt rfl (mtX_size ..) (mtX_one ..)
        have l1 := mt_load (P := Tryz.prog) k1
        have hcr : CoR W1 W1.heap.size y.x.c y.A y.D := (CoR.up (HL.out y (List.mem_of_getElem? hy)) (BW'.out.trans (b1.mono BW'.out.size)))
        have B1 := Lib.hid (BW'.out.trans (b1.mono BW'.out.size))
        have O1 := Lib.hid (own_below OW.out (b1.mono (Nat.le_refl _)))
        cases hmy : mayM y.x
        · have MW := Lib.hid (mlwrite_no y.x y.A y.D y.c y.e W1 hcr hmy)
          have HP := Lib.hid (putM_bad (t := t) hy hmy)
          clear hcr k1 b1 s1 hy hmy
          go_wp2_with fail
          refine MW.out.mono ?_
          rintro e w2 ⟨fb, rfl, hf, b2⟩
          have B2 := Lib.hid (B1.out.trans (b2.mono B1.out.size))
          have MC := Lib.hid (mlcode_fault fb 2 w2 (HG.out.up B2.out) hf)
          clear b2 hf l1 ld
          go_wp2_with fail
          refine MC.out.mono ?_
          rintro e w3 ⟨rfl, b3⟩
          have B3 := Lib.hid (B2.out.trans (b3.mono B2.out.size))
          clear b3
          go_wp2_with fail
          go_ret2
          rw [HP.out]
          exact ⟨none, 0, rfl, Reads.none_, B3.out⟩
        · have MW := Lib.hid (mlwrite_ok y.x y.A y.D y.c y.e W1 hcr hmy)
          have hsz := bs_enc_size hmy
          have HMY := Lib.hid hmy
          obtain ⟨Z, hZ⟩ : ∃ Z, bs (encM y.x) = Z := ⟨_, rfl⟩
          rw [hZ] at MW hsz
          have HZ := Lib.hid hZ
          have HSZ := Lib.hid hsz
          clear hcr k1 b1 s1 hy hmy hsz hZ
          go_wp2_with fail
          refine MW.out.mono ?_
          rintro e w2 ⟨rfl, b2⟩
          have B2 := Lib.hid (B1.out.trans (b2.mono B1.out.size))
          have O2 := Lib.hid (own_below O1.out b2)
          have FB := Lib.hid (bytes_ok Z w2 HSZ.out)
          clear b2 l1 ld
          go_wp2_with fail
          refine FB.out.mono ?_
          rintro e w3 ⟨rfl, b3⟩
          have B3 := Lib.hid (B2.out.trans (b3.mono B2.out.size))
          have O3 := Lib.hid (own_below O2.out b3)
          obtain ⟨F, hF⟩ : ∃ F, F = bs (headOf Z.size ++ lb Z) := ⟨_, rfl⟩
          rw [← hF]
          have HF := Lib.hid (show frOf (bs (encM y.x)) = F by rw [HZ.out, hF]; rfl)
          have hn := HN.out
          have hsz3 := B3.out.size
          clear b3 hF
          go_wp2_with (at_builtin; refine wpList_append_any _ rfl (.tmp 46) (.tmp 50) 47 rfl w.heap.size 57 i0 _ 4 48 Tryz.underlying47 hi hi0 hi1 hi2 rfl (by decide) _ k _ (by rfl) (O3.out.alloc _) _ _ 1 1 (cellsQ [(0, nm, F)]) (by rfl) (reads_wr w3 _ (0, nm, F) _ rfl) (cellsQ_one _) (by unfold maxLen; omega) (by omega) (by simp; omega) ?_; intro v' w8 hown' hgrow hat')
          have R1 := Lib.hid (show w8.ownsRow w.heap.size 57 4 v' (k + 1) (cellsQ (rowsQ nm ((l.take (k + 1)).map (·.x)))) from by
            rw [← rowsQ_take HY.out, cellsQ_append, HF.out]
            exact hown')
          have R2 := Lib.hid (show Below w.heap.size w w8 from (bal B3.out _).grown hgrow (by simp; omega) (fun x hx => (O3.out.lt x hx).1))
          have R3 := Lib.hid (all_take HY.out HALL.out HMY.out)
          clear hown' hgrow hat' hn hsz3
          go_wp2_with fail
          go_roundg (l.length - k - 1)
          case measure => have := HMM.out; omega
          case rel => have := HN.out; exact ⟨k + 1, by omega, by (first | rfl | (rw [IntWalk.wrap64_in _ (by omega)]; rfl) | (rw [IntWalk.i64_in _ (by omega)]; rfl)), by omega, R3.out, R1.out, R2.out⟩
      · have hkn : k = l.length := by omega
        have d1 : decide ((k : Int) < (l.length : Int)) = false := decide_eq_false (by omega)
        have HP := Lib.hid (show putM t (l.map (·.x)) = (rowsQ nm (l.map (·.x)) ++ [(1, nm, ⟨#[]⟩)], 0) from by
          have h := HALL.out
          rw [hkn, List.take_length] at h
          unfold putM
          rw [HNM.out, List.length_map, if_neg HB2.out, if_pos h])
        have OF := Lib.hid (show wr.ownsRow w.heap.size 57 4 _ l.length (cellsQ (rowsQ nm (l.map (·.x)))) from by
          have h := OW.out
          rw [hkn, List.take_length] at h
          exact h)
        have hn := HN.out
        have hsz3 := BW'.out.size
        go_wp2_with (at_builtin; refine wpList_append_any _ rfl (.tmp 53) (.tmp 56) 47 rfl w.heap.size 57 i0 _ 4 48 Tryz.underlying47 hi hi0 hi1 hi2 rfl (by decide) _ l.length _ (by rfl) (OF.out.alloc _) _ _ 1 1 (cellsQ [(1, nm, ⟨#[]⟩)]) (by rfl) (reads_wr wr _ (1, nm, ⟨#[]⟩) _ rfl) (cellsQ_one _) (by unfold maxLen; omega) (by omega) (by simp; omega) ?_; intro v' w8 hown' hgrow hat'; obtain ⟨A8, c8, rfl, hc8⟩ := own_slice hown')
        have R2 := Lib.hid (show Below w.heap.size w w8 from (bal BW'.out _).grown hgrow (by simp; omega) (fun x hx => (OF.out.lt x hx).1))
        have R1 := Lib.hid (Reads.of_own hown')
        go_wp2_with fail
        go_ret2
        rw [HP.out]
        refine ⟨A8, c8, ?_, ?_, R2.out⟩
        · simp [rowsQ_len]
        · have h := R1.out
          rw [← cellsQ_append] at h
          have e : (rowsQ nm (l.map fun y : MtM => y.x) ++ [(1, nm, (⟨#[]⟩ : ByteArray))]).length = l.length + 1 := by simp [rowsQ_len]
          show Reads _ _ 4 A8 (rowsQ nm (l.map fun y : MtM => y.x) ++ [(1, nm, (⟨#[]⟩ : ByteArray))]).length _
          rw [e]
          exact h
end
end Go.Proofs.YtbpkckahonmpkaaGreatDoor
