/-
  Layer 19, the document's: takePend, takeCoord.
  Layer 19: metalog's reader: how a transactional id is read.
-/
import Derived.Test.YtbpkckahonmpkaaGreatDoorMlReadsProofP08
import Derived.Deep.LoopGhost
import Derived.Deep.RegionLaw
set_option linter.unusedVariables false
set_option linter.unusedSimpArgs false
namespace Go.Proofs.YtbpkckahonmpkaaGreatDoor
open Go.RowKit
/-- So many pends that are nothing. -/
def zP (k : Nat) : List Pd := List.replicate k (0, 0, 0)
theorem zP_len (k : Nat) : (zP k).length = k := List.length_replicate
theorem zP_snoc (k : Nat) : zP k ++ [(0, 0, 0)] = zP (k + 1) := by unfold zP; rw [List.replicate_succ']
theorem mtX_qs1 (m : Mt) (v st pid ep tm th ag : Int) (ps : List Int) (l l' : List Pd) (A D : Option Addr) (c e : Nat) (h : l.length = l'.length) : mtX { m with tid := v, c := ⟨st, pid, ep, tm, th, ps, l, ag⟩ } A D c e = mtX { m with tid := v, c := ⟨st, pid, ep, tm, th, ps, l', ag⟩ } A D c e := by
  simp only [mtX, mtL, coL, h]
/-- A row's cells behind three stores. -/
theorem look3 {cur : Array Value} {k : Nat} {l : List Pd} (hl : l.length = k) (hs : k * 3 + 2 < cur.size) (h : ∀ j, j < k * 3 → cur[j]? = (cellsP l)[j]?) (p : Pd) :
    ∀ j, j < (k + 1) * 3 → (((cur.setIfInBounds (k * 3) (.int .i64 p.1)).setIfInBounds (k * 3 + 1) (.int .i64 p.2.1)).setIfInBounds (k * 3 + 2) (.int .i64 p.2.2))[j]? = (cellsP (l ++ [p]))[j]? := by
  intro j hj
  have hlc : (cellsP l).length = k * 3 := by rw [length_cellsP, hl]
  rw [cellsP_append]
  by_cases h1 : j < k * 3
  · rw [List.getElem?_append_left (by omega), ← h j h1, Array.getElem?_setIfInBounds, Array.getElem?_setIfInBounds, Array.getElem?_setIfInBounds, if_neg (by omega), if_neg (by omega), if_neg (by omega)]
  · rw [List.getElem?_append_right (by omega), hlc, cellsP_cons]
    have hcn : cellsP [] = [] := rfl
    rw [hcn]
    obtain rfl | rfl | rfl : j = k * 3 ∨ j = k * 3 + 1 ∨ j = k * 3 + 2 := by omega
    · rw [Nat.sub_self, Array.getElem?_setIfInBounds, if_neg (by omega), Array.getElem?_setIfInBounds, if_neg (by omega), Array.getElem?_setIfInBounds, if_pos rfl, if_pos (by omega)]; rfl
    · rw [show k * 3 + 1 - k * 3 = 1 by omega, Array.getElem?_setIfInBounds, if_neg (by omega), Array.getElem?_setIfInBounds, if_pos rfl, if_pos (by rw [Array.size_setIfInBounds]; omega)]; rfl
    · rw [show k * 3 + 2 - k * 3 = 2 by omega, Array.getElem?_setIfInBounds, if_pos rfl, if_pos (by rw [Array.size_setIfInBounds, Array.size_setIfInBounds]; omega)]; rfl
theorem reads_look {W : World} {bD : Nat} {t : TypeId} {cur : Array Value} {l : List Pd} {n : Nat} (hk : Blk W bD t cur) (hl : l.length = n) (h : ∀ j, j < n * 3 → cur[j]? = (cellsP l)[j]?) : Reads W W.heap.size 3 (some ⟨bD, 0, none⟩) n (cellsP l) := by
  refine ⟨by rw [length_cellsP, hl], fun _ => ⟨_, rfl, hk.lt, fun j u hu => ?_⟩⟩
  have hj : j < n * 3 := by have := (List.getElem?_eq_some_iff.1 hu).1; rw [length_cellsP, hl] at this; exact this
  rw [add_none, Nat.zero_add, hk.cell, h j hj, hu]
theorem reads_zero (w : World) (t : TypeId) (g : Nat) (hg : w.heap.size = g) : Reads (w.alloc (.cells #[.int .i64 0, .int .i64 0, .int .i64 0] t)) (g + 1) 3 (some ⟨g, 0, none⟩) 1 (cellsP [(0, 0, 0)]) := by
  subst hg
  refine ⟨by rw [length_cellsP]; rfl, fun _ => ⟨_, rfl, Nat.lt_succ_self _, fun j u hu => ?_⟩⟩
  rw [add_none, Nat.zero_add]
  rw [(Blk.new w t _).cell j]
  simpa [cellsP] using hu
theorem infoPdF : (Tryz.prog.info? 40).map (fun i => (i.zero, i.size, i.bytes)) = some (some (.agg #[.int .i64 0, .int .i64 0, .int .i64 0]), 3, 24) := by kernel_rfl
theorem rok_grown {W W' : World} {g i : Nat} {s : ByteArray} {b : Bool} {row : Option Nat} (h : ROk W g s i b) (k : W.grownBy W' row) (hr : ∀ x, row = some x → x ≠ g ∧ x ≠ 0) : ROk W' g s i b := by
  have hs := k.size
  refine ⟨Blk.grown h.1 k (fun e => (hr _ e.symm).1 rfl), h.2.1, (World.cell?_of_block (a := ⟨0, 0, none⟩) (k.block _ h.2.2.2.2.2.1 (fun e => (hr _ e.symm).2 rfl))).trans h.2.2.1, h.2.2.2.1, ?_, ?_, Nat.le_refl _⟩
  · exact Nat.lt_of_lt_of_le h.2.2.2.2.1 hs
  · exact Nat.lt_of_lt_of_le h.2.2.2.2.2.1 hs
def RsP (g b : Nat) (mm : Mt) (s : ByteArray) (j : Nat) (b' : Bool) (w : World) (e : Ending) (w' : World) : Prop :=
  e = .returned (.tuple #[]) ∧ ROk w' g s j b' ∧ (∃ D e', Blk w' b 42 (mtX mm none D 0 e') ∧ Reads w' w'.heap.size 3 D mm.c.qs.length (cellsP mm.c.qs) ∧ ∀ ad, 0 < mm.c.qs.length → D = some ad → w.heap.size ≤ ad.block) ∧ Only (fun x => x = g ∨ x = b) w w'
set_option maxRecDepth 100000 in
set_option maxHeartbeats 8000000 in
theorem rmstate (g b : Nat) (m : Mt) (s : ByteArray) (i : Nat) (bad : Bool) {v1 v2 v3 v4 v5 v6 v7 v9 : Int} {qs : List Pd} {j1 j2 j3 j4 j5 j6 j7 j8 j9 : Nat} {b1 b2 b3 b4 b5 b6 b7 b8 b9 : Bool} (hz1 : rdNum (lb s) i bad 0 2 = (v1, j1, b1)) (hz2 : rdNum (lb s) j1 b1 0 6 = (v2, j2, b2)) (hz3 : rdNum (lb s) j2 b2 0 8 = (v3, j3, b3)) (hz4 : rdNum (lb s) j3 b3 0 100 = (v4, j4, b4)) (hz5 : rdNum (lb s) j4 b4 0 20 = (v5, j5, b5)) (hz6 : rdNum (lb s) j5 b5 0 20 = (v6, j6, b6)) (hz7 : rdNum (lb s) j6 b6 0 6 = (v7, j7, b7)) (hz8 : rdRep rdPn v7.toNat (lb s) j7 b7 = (qs, j8, b8)) (hz9 : rdNum (lb s) j8 b8 0 1048576 = (v9, j9, b9))
    (w : World) (h : ROk w g s i bad) (hE : Blk w b 42 (mtX m none none 0 0)) (hbg : b ≠ g) (hbe : b ≠ 0) (hc : m.c = Co0) :
    Calls Tryz.prog 104 #[.agg #[.iface 128 (.agg #[.pointer (some ⟨g, 0, none⟩)]), .pointer (some ⟨b, 0, none⟩)]] w (RsP g b { m with tid := v1, c := ⟨v2, v3, v4, v5, v6, [], qs, v9⟩ } s j9 b9 w) := by
  obtain ⟨i0, hi, hi0, hi1, hi2⟩ := info_parts infoPdF
  obtain ⟨W0, hW0⟩ : ∃ W0, W0 = w.alloc (.cells #[.iface 128 (.agg #[.pointer (some ⟨g, 0, none⟩)]), .pointer (some ⟨b, 0, none⟩)] 114) := ⟨_, rfl⟩
  have KF0 := Lib.hid (show Blk W0 w.heap.size 114 #[.iface 128 (.agg #[.pointer (some ⟨g, 0, none⟩)]), .pointer (some ⟨b, 0, none⟩)] by rw [hW0]; exact Blk.new w 114 #[.iface 128 (.agg #[.pointer (some ⟨g, 0, none⟩)]), .pointer (some ⟨b, 0, none⟩)])
  have HS0 := Lib.hid (show ROk W0 g s i bad by rw [hW0]; exact rok_alloc h _)
  have KE0 := Lib.hid (show Blk W0 b 42 (mtX m none none 0 0) by rw [hW0]; exact hE.alloc _)
  have HO0 := Lib.hid (show Only (fun x => x = g ∨ x = b) w W0 by rw [hW0]; exact (Only.refl _ _).alloc _)
  have HBG := Lib.hid (And.intro hbg hbe)
  have HW := Lib.hid hW0
  have HFG := Lib.hid (show w.heap.size ≠ g ∧ w.heap.size ≠ b by have := h.2.2.2.2.1; have := hE.lt; omega)
  have HLO := Lib.hid (show g < w.heap.size ∧ b < w.heap.size ∧ 0 < w.heap.size from ⟨h.2.2.2.2.1, hE.lt, h.2.2.2.2.2.1⟩)
  have HV2 := Lib.hid (show 0 ≤ v2 ∧ v2 ≤ 6 by rcases rdNum_rng hz2 with h | h <;> omega)
  have HV7 := Lib.hid (show 0 ≤ v7 ∧ v7 ≤ 6 by rcases rdNum_rng hz7 with h | h <;> omega)
  have HCC := Lib.hid hc
  have HZ1 := Lib.hid hz1
  have HZ2 := Lib.hid hz2
  have HZ3 := Lib.hid hz3
  have HZ4 := Lib.hid hz4
  have HZ5 := Lib.hid hz5
  have HZ6 := Lib.hid hz6
  have HZ7 := Lib.hid hz7
  have HZ8 := Lib.hid hz8
  have HZ9 := Lib.hid hz9
  have wc8 : IntKind.i8.wrap v2 = v2 := IntWalk.i8_in _ (by have := HV2.out; omega)
  have NM := Lib.hid (rmtid g b m none none 0 0 s i bad HZ1.out W0 HS0.out KE0.out HBG.out.1 HBG.out.2)
  have xf0 : W0.cell? ⟨w.heap.size, 0, none⟩ = some (.iface 128 (.agg #[.pointer (some ⟨g, 0, none⟩)])) := KF0.out.cell 0
  have xf1 : W0.cell? ⟨w.heap.size, 1, none⟩ = some (.pointer (some ⟨b, 0, none⟩)) := KF0.out.cell 1
  clear hW0 h hE hbg hbe hc hz1 hz2 hz3 hz4 hz5 hz6 hz7 hz8 hz9
  go_enter Tryz.func104, Tryz.ntmps104
  go_upto_region 1 with (fail)
  rw [← HW.out]
  go_wp2_with fail
  refine NM.out.mono ?_
  rintro e w1 ⟨rfl, hs, hk, ho⟩
  have hk : Blk w1 b 42 (mtX { m with tid := v1, c := ⟨0, 0, 0, 0, 0, [], [], 0⟩ } none none 0 0) := by
    have e : ({ m with tid := v1 } : Mt) = { m with tid := v1, c := ⟨0, 0, 0, 0, 0, [], [], 0⟩ } := by obtain ⟨x0, x1, x2, x3, x4, x5, x6, x7⟩ := m; have := HCC.out; simp only at this; subst this; rfl
    rw [← e]; exact hk
  have xc : w1.cell? ⟨b, 8, none⟩ = some (.int .i8 0) := mt_cell hk (j := 8) rfl
  have yf0 := (ho.blk KF0.out (fun x => x.elim HFG.out.1 HFG.out.2)).cell 0
  have yf1 := (ho.blk KF0.out (fun x => x.elim HFG.out.1 HFG.out.2)).cell 1
  have n1 : w1.heap.size ≠ g ∧ w1.heap.size ≠ b ∧ w1.heap.size ≠ 0 := by have := HLO.out; have := HO0.out.size; have := ho.size; omega
  have N1 := Lib.hid n1
  have o2 := (HO0.out.trans ho).alloc (.cells #[.int .i64 0] 3)
  have kf2 := (ho.blk KF0.out (fun x => x.elim HFG.out.1 HFG.out.2)).alloc (.cells #[.int .i64 0] 3)
  have ke2 := hk.alloc (.cells #[.int .i64 0] 3)
  have kn2 := Blk.new w1 3 #[.int .i64 0]
  have hs2 := rok_alloc hs (.cells #[.int .i64 0] 3)
  obtain ⟨W2, hW2⟩ : ∃ W2, W2 = w1.alloc (.cells #[.int .i64 0] 3) := ⟨_, rfl⟩
  rw [← hW2] at o2 kf2 ke2 kn2 hs2
  have zf0 : (w1.alloc (.cells #[.int .i64 0] 3)).cell? ⟨w.heap.size, 0, none⟩ = some (.iface 128 (.agg #[.pointer (some ⟨g, 0, none⟩)])) := by rw [← hW2]; exact kf2.cell 0
  have HW2 := Lib.hid hW2
  have KF2 := Lib.hid kf2
  have KE2 := Lib.hid ke2
  have HO2 := Lib.hid o2
  have nm := rmnum g w1.heap.size 0 3 #[.int .i64 0] s j1 j2 b1 b2 0 6 v2 W2 hs2 kn2 (by decide) n1.1 n1.2.2 HZ2.out
  rw [hW2] at nm
  have NM := Lib.hid nm
  have HLS := Lib.hid (show w.heap.size < w1.heap.size by have := KF0.out.lt; have := ho.size; omega)
  clear xf0 xf1 hW2 kf2 ke2 kn2 o2 nm hs hk ho n1 hs2
  go_wp2_with fail
  refine NM.out.mono ?_
  rw [← HW2.out]
  rintro e w2 ⟨rfl, hs, hkn, ho⟩
  have zc : w2.cell? ⟨w1.heap.size, 0, none⟩ = some (.int .i64 v2) := hkn.cell 0
  have ke := ho.blk KE2.out (fun x => x.elim HBG.out.1 (Ne.symm N1.out.2.1))
  have xe := ke.cell 8
  have fe := ke.frozen 8
  have HS3 := Lib.hid (rok_far hs HBG.out.1 HBG.out.2 8 (.int .i8 v2))
  have KE3 := Lib.hid (show Blk (w2.setCell ⟨b, 8, none⟩ (.int .i8 v2)) b 42 (mtX { m with tid := v1, c := ⟨v2, 0, 0, 0, 0, [], [], 0⟩ } none none 0 0) from ke.set_ 8 (.int .i8 v2))
  have KF3 := Lib.hid ((ho.blk KF2.out (fun x => x.elim HFG.out.1 (fun y => by have := HLS.out; omega))).far (p := ⟨b, 8, none⟩) HFG.out.2 (.int .i8 v2))
  have HO3 := Lib.hid ((HO2.out.step ho (fun x hx hs => hs.elim .inl (fun y => by have := HLS.out; omega))).set (.inl (.inr rfl)) (o := 8) (.int .i8 v2))
  obtain ⟨W3, hW3⟩ : ∃ W3, W3 = w2.setCell ⟨b, 8, none⟩ (.int .i8 v2) := ⟨_, rfl⟩
  rw [← hW3] at KE3 KF3 HO3 HS3
  have HW3 := Lib.hid hW3
  clear hs ho ke hkn hW3 zf0 xc yf0 yf1
  have xf0 : W3.drew.cell? ⟨w.heap.size, 0, none⟩ = some (.iface 128 (.agg #[.pointer (some ⟨g, 0, none⟩)])) := KF3.out.drew.cell 0
  have NM := Lib.hid (rmnum g b 9 42 (mtX { m with tid := v1, c := ⟨v2, 0, 0, 0, 0, [], [], 0⟩ } none none 0 0) s j2 j3 b2 b3 0 8 v3 W3.drew (RdOk.drew HS3.out) KE3.out.drew (by rw [mtX_size]; decide) HBG.out.1 HBG.out.2 HZ3.out)
  go_wp2_with fail
  rw [← HW3.out]
  go_wp2_with fail
  refine wp_region_qtail 7 (by kernel_rfl) (by kernel_rfl) ?_
  simp only [List.take_succ_cons, List.take_zero, List.drop_succ_cons, List.drop_zero]
  repeat (go_big_quiet_step (fail))
  refine wpQuiet_nil ?_
  go_wp2_with fail
  refine NM.out.mono ?_
  rintro e w4 ⟨rfl, hs, hk, ho⟩
  have HS4 := Lib.hid hs
  have KE4 := Lib.hid (show Blk w4 b 42 (mtX { m with tid := v1, c := ⟨v2, v3, 0, 0, 0, [], [], 0⟩ } none none 0 0) from hk)
  have KF4 := Lib.hid (ho.blk KF3.out.drew (fun x => x.elim HFG.out.1 HFG.out.2))
  have HO4 := Lib.hid (HO3.out.drew.trans ho)
  clear hs ho hk xf0 NM zc xe fe
  have xf0 : w4.drew.cell? ⟨w.heap.size, 0, none⟩ = some (.iface 128 (.agg #[.pointer (some ⟨g, 0, none⟩)])) := KF4.out.drew.cell 0
  have NM := Lib.hid (rmnum g b 10 42 (mtX { m with tid := v1, c := ⟨v2, v3, 0, 0, 0, [], [], 0⟩ } none none 0 0) s j3 j4 b3 b4 0 100 v4 w4.drew (RdOk.drew HS4.out) KE4.out.drew (by rw [mtX_size]; decide) HBG.out.1 HBG.out.2 HZ4.out)
  go_wp2_with fail
  refine wp_region_qtail 7 (by kernel_rfl) (by kernel_rfl) ?_
  simp only [List.take_succ_cons, List.take_zero, List.drop_succ_cons, List.drop_zero]
  repeat (go_big_quiet_step (fail))
  refine wpQuiet_nil ?_
  go_wp2_with fail
  refine NM.out.mono ?_
  rintro e w5 ⟨rfl, hs, hk, ho⟩
  have HS5 := Lib.hid hs
  have KE5 := Lib.hid (show Blk w5 b 42 (mtX { m with tid := v1, c := ⟨v2, v3, v4, 0, 0, [], [], 0⟩ } none none 0 0) from hk)
  have KF5 := Lib.hid (ho.blk KF4.out.drew (fun x => x.elim HFG.out.1 HFG.out.2))
  have HO5 := Lib.hid (HO4.out.drew.trans ho)
  clear hs ho hk xf0 NM
  have xf0 : w5.drew.cell? ⟨w.heap.size, 0, none⟩ = some (.iface 128 (.agg #[.pointer (some ⟨g, 0, none⟩)])) := KF5.out.drew.cell 0
  have NM := Lib.hid (rmnum g b 11 42 (mtX { m with tid := v1, c := ⟨v2, v3, v4, 0, 0, [], [], 0⟩ } none none 0 0) s j4 j5 b4 b5 0 20 v5 w5.drew (RdOk.drew HS5.out) KE5.out.drew (by rw [mtX_size]; decide) HBG.out.1 HBG.out.2 HZ5.out)
  go_wp2_with fail
  refine wp_region_qtail 7 (by kernel_rfl) (by kernel_rfl) ?_
  simp only [List.take_succ_cons, List.take_zero, List.drop_succ_cons, List.drop_zero]
  repeat (go_big_quiet_step (fail))
  refine wpQuiet_nil ?_
  go_wp2_with fail
  refine NM.out.mono ?_
  rintro e w6 ⟨rfl, hs, hk, ho⟩
  have HS6 := Lib.hid hs
  have KE6 := Lib.hid (show Blk w6 b 42 (mtX { m with tid := v1, c := ⟨v2, v3, v4, v5, 0, [], [], 0⟩ } none none 0 0) from hk)
  have KF6 := Lib.hid (ho.blk KF5.out.drew (fun x => x.elim HFG.out.1 HFG.out.2))
  have HO6 := Lib.hid (HO5.out.drew.trans ho)
  clear hs ho hk xf0 NM
  have xf0 : w6.drew.cell? ⟨w.heap.size, 0, none⟩ = some (.iface 128 (.agg #[.pointer (some ⟨g, 0, none⟩)])) := KF6.out.drew.cell 0
  have NM := Lib.hid (rmnum g b 12 42 (mtX { m with tid := v1, c := ⟨v2, v3, v4, v5, 0, [], [], 0⟩ } none none 0 0) s j5 j6 b5 b6 0 20 v6 w6.drew (RdOk.drew HS6.out) KE6.out.drew (by rw [mtX_size]; decide) HBG.out.1 HBG.out.2 HZ6.out)
  go_wp2_with fail
  refine wp_region_qtail 7 (by kernel_rfl) (by kernel_rfl) ?_
  simp only [List.take_succ_cons, List.take_zero, List.drop_succ_cons, List.drop_zero]
  repeat (go_big_quiet_step (fail))
  refine wpQuiet_nil ?_
  go_wp2_with fail
  refine NM.out.mono ?_
  rintro e w7 ⟨rfl, hs, hk, ho⟩
  have HS7 := Lib.hid hs
  have KE7 := Lib.hid (show Blk w7 b 42 (mtX { m with tid := v1, c := ⟨v2, v3, v4, v5, v6, [], [], 0⟩ } none none 0 0) from hk)
  have KF7 := Lib.hid (ho.blk KF6.out.drew (fun x => x.elim HFG.out.1 HFG.out.2))
  have HO7 := Lib.hid (HO6.out.drew.trans ho)
  clear hs ho hk xf0 NM
  have xq : w7.cell? ⟨b, 14, none⟩ = some (.slice none 0 0) := mt_cell KE7.out (j := 14) rfl
  have n1 : w7.heap.size ≠ g ∧ w7.heap.size ≠ b ∧ w7.heap.size ≠ 0 := by have := HLO.out; have := HO7.out.size; omega
  have N7 := Lib.hid n1
  have o2 := HO7.out.alloc (.cells #[.int .i64 0] 3)
  have kf2 := KF7.out.alloc (.cells #[.int .i64 0] 3)
  have ke2 := KE7.out.alloc (.cells #[.int .i64 0] 3)
  have kn2 := Blk.new w7 3 #[.int .i64 0]
  have hs2 := rok_alloc HS7.out (.cells #[.int .i64 0] 3)
  obtain ⟨W8, hW8⟩ : ∃ W8, W8 = w7.alloc (.cells #[.int .i64 0] 3) := ⟨_, rfl⟩
  rw [← hW8] at o2 kf2 ke2 kn2 hs2
  have zf0 : (w7.alloc (.cells #[.int .i64 0] 3)).cell? ⟨w.heap.size, 0, none⟩ = some (.iface 128 (.agg #[.pointer (some ⟨g, 0, none⟩)])) := by rw [← hW8]; exact kf2.cell 0
  have HW8 := Lib.hid hW8
  have KF8 := Lib.hid kf2
  have KE8 := Lib.hid ke2
  have HO8 := Lib.hid o2
  have nm := rmnum g w7.heap.size 0 3 #[.int .i64 0] s j6 j7 b6 b7 0 6 v7 W8 hs2 kn2 (by decide) n1.1 n1.2.2 HZ7.out
  rw [hW8] at nm
  have NM := Lib.hid nm
  have HL7 := Lib.hid (show w.heap.size < w7.heap.size by have := KF7.out.lt; omega)
  clear hW8 kf2 ke2 kn2 o2 nm n1 hs2
  go_wp2_with fail
  refine NM.out.mono ?_
  rw [← HW8.out]
  rintro e w9 ⟨rfl, hs, hkn, ho⟩
  have KN9 := Lib.hid (show Blk w9 w7.heap.size 3 #[.int .i64 v7] from hkn)
  have KE9 := Lib.hid (ho.blk KE8.out (fun x => x.elim HBG.out.1 (Ne.symm N7.out.2.1)))
  have KF9 := Lib.hid (ho.blk KF8.out (fun x => x.elim HFG.out.1 (fun y => by have := HL7.out; omega)))
  have HO9 := Lib.hid (HO8.out.step ho (fun x hx hs => hs.elim .inl (fun y => by have := HL7.out; omega)))
  have HS9 := Lib.hid hs
  have HL9 := Lib.hid (show w7.heap.size < w9.heap.size from hkn.lt)
  clear hs ho hkn zf0 NM xq
  obtain ⟨nn, hnn⟩ : ∃ nn : Nat, v7 = (nn : Int) := Int.eq_ofNat_of_zero_le HV7.out.1
  have HNN := Lib.hid (show nn ≤ 6 by have := HV7.out.2; omega)
  have HV := Lib.hid hnn
  subst hnn
  go_wp2_with fail
  go_loopg [] nn (fun mm wq => ∃ (k : Nat) (D : Option Addr) (e : Nat), k ≤ nn ∧ mm = nn - k ∧ wq.ownsRow w9.heap.size 40 3 (.slice D k e) k (cellsP (zP k)) ∧ Blk wq b 42 (mtX { m with tid := v1, c := ⟨v2, v3, v4, v5, v6, [], zP k, 0⟩ } none D 0 e) ∧ ROk wq g s j7 b7 ∧ Blk wq w7.heap.size 3 #[.int .i64 (nn : Int)] ∧ Blk wq w.heap.size 114 #[.iface 128 (.agg #[.pointer (some ⟨g, 0, none⟩)]), .pointer (some ⟨b, 0, none⟩)] ∧ Only (fun x => x = b) w9 wq)
  case atStart => exact ⟨0, none, 0, Nat.zero_le _, rfl, World.ownsRow_nil _ _ _ _, KE9.out, HS9.out, KN9.out, KF9.out, Only.refl _ _⟩
  case round =>
    obtain ⟨k, D, e, hk, hmm, how, hke, hs, hkn, hkf, ho⟩ := hrel
    have HMM := Lib.hid hmm
    have OW := Lib.hid how
    have KEk := Lib.hid hke
    have HSk := Lib.hid hs
    have KNk := Lib.hid hkn
    have KFk := Lib.hid hkf
    have HOk := Lib.hid ho
    have xn : wr.drew.cell? ⟨w7.heap.size, 0, none⟩ = some (.int .i64 (nn : Int)) := hkn.drew.cell 0
    have xq : wr.drew.cell? ⟨b, 14, none⟩ = some (.slice D k e) := by have := mt_cell hke.drew (j := 14) rfl; rw [zP_len] at this; exact this
    clear hmm how hke hs hkn hkf ho
    by_cases hlt : k < nn
    · have d3 : decide ((k : Int) < (nn : Int)) = true := decide_eq_true (by omega)
      have hn6 := HNN.out
      have hbs : w9.heap.size ≤ wr.heap.size := HOk.out.size
      go_wp2_with fail
      refine wp_region_qtail 6 (by kernel_rfl) (by kernel_rfl) ?_
      simp only [List.take_succ_cons, List.take_zero, List.drop_succ_cons, List.drop_zero]
      repeat (go_big_quiet_step (fail))
      refine wpQuiet_nil ?_
      go_wp2_with (at_builtin; refine wpList_append_any _ rfl (.tmp 76) (.tmp 78) 27 rfl w9.heap.size 40 i0 _ 3 24 Tryz.underlying27 hi hi0 hi1 hi2 rfl (by decide) _ k _ (by rfl) (OW.out.drew.alloc _) _ _ 1 1 (cellsP [(0, 0, 0)]) (by rfl) (reads_zero wr.drew _ _ rfl) (cellsP_one _) (by unfold maxLen; omega) (by omega) (by simp; omega) ?_; intro v' w8 hown' hgrow hat'; obtain ⟨A8, c8, rfl, hc8⟩ := own_slice hown'; have k8 := (KEk.out.drew.alloc (.cells #[.int .i64 0, .int .i64 0, .int .i64 0] 40)).grown hgrow (fun e => by have := (OW.out.lt _ e.symm).1; have := HLO.out; have := HO9.out.size; omega); have z14 := k8.cell 14; have f14 := k8.frozen 14)
      have hlo : ∀ x, (Value.slice D k e).ownBlock = some x → w9.heap.size ≤ x := fun x hx => (OW.out.lt _ hx).1
      have hlo9 := HO9.out.size
      have hl := HLO.out
      have ho8 : Only (fun x => x = b) w9 (w8.setCell ⟨b, 14, none⟩ (.slice A8 (k + 1) c8)) := ((HOk.out.drew.alloc _).grown hgrow (fun x hx hl => by have := hlo x hx; omega)).set (.inl rfl) _
      have R1 := Lib.hid (show (w8.setCell ⟨b, 14, none⟩ (.slice A8 (k + 1) c8)).ownsRow w9.heap.size 40 3 (.slice A8 (k + 1) c8) (k + 1) (cellsP (zP (k + 1))) from by
        rw [← zP_snoc, cellsP_append]
        exact own_set hown' (by omega) _)
      have R2 := Lib.hid (show Blk (w8.setCell ⟨b, 14, none⟩ (.slice A8 (k + 1) c8)) b 42 (mtX { m with tid := v1, c := ⟨v2, v3, v4, v5, v6, [], zP (k + 1), 0⟩ } none A8 0 c8) from by
        have := k8.set_ 14 (.slice A8 (k + 1) c8)
        have e : (mtX { m with tid := v1, c := ⟨v2, v3, v4, v5, v6, [], zP k, 0⟩ } none D 0 e).setIfInBounds 14 (.slice A8 (k + 1) c8) = mtX { m with tid := v1, c := ⟨v2, v3, v4, v5, v6, [], zP (k + 1), 0⟩ } none A8 0 c8 := by
          have hz : (zP (k + 1)).length = k + 1 := zP_len _
          simp only [mtX, mtL, coL, hz]
          rfl
        rw [← e]; exact this)
      have R3 := Lib.hid (show ROk (w8.setCell ⟨b, 14, none⟩ (.slice A8 (k + 1) c8)) g s j7 b7 from rok_far (rok_grown (rok_alloc (RdOk.drew HSk.out) (.cells #[.int .i64 0, .int .i64 0, .int .i64 0] 40)) hgrow (fun x hx => by have := hlo x hx; omega)) HBG.out.1 HBG.out.2 14 _)
      have R4 := Lib.hid (ho8.blk KN9.out (Ne.symm (fun x => N7.out.2.1 x.symm)))
      have R5 := Lib.hid (ho8.blk KF9.out HFG.out.2)
      have R6 := Lib.hid ho8
      clear hown' hgrow k8 hlo hlo9 hl ho8 z14 f14 xn xq
      go_wp2_with fail
      go_roundg (nn - k - 1)
      case measure => have := HMM.out; omega
      case rel => exact ⟨k + 1, A8, c8, by omega, by omega, R1.out, R2.out, R3.out, R4.out, R5.out, R6.out⟩
    · have hkn : k = nn := by omega
      subst hkn
      have d3 : decide ((k : Int) < (k : Int)) = false := decide_eq_false (by omega)
      go_wp2_with fail
      refine wp_region_qtail 6 (by kernel_rfl) (by kernel_rfl) ?_
      simp only [List.take_succ_cons, List.take_zero, List.drop_succ_cons, List.drop_zero]
      repeat (go_big_quiet_step (fail))
      refine wpQuiet_nil ?_
      go_wp2_with fail
      clear xn xq
      have OW10 := Lib.hid (show wr.drew.ownsRow w9.heap.size 40 3 (.slice D k e) k (cellsP (zP k)) from OW.out.drew)
      have KE10 := Lib.hid KEk.out.drew
      have KF10 := Lib.hid KFk.out.drew
      have HO10 := Lib.hid HOk.out.drew
      have HS10 := Lib.hid (show ROk wr.drew g s j7 b7 from RdOk.drew HSk.out)
      obtain ⟨W10, hW10⟩ : ∃ W10, W10 = wr.drew := ⟨_, rfl⟩
      rw [← hW10] at OW10 KE10 KF10 HO10 HS10 ⊢
      clear hW10 OW KEk KFk HOk HSk KNk
      obtain ⟨bD, hbD, hrow⟩ : ∃ bD, w9.heap.size ≤ bD ∧ (0 < k → D = some ⟨bD, 0, none⟩ ∧ ∃ cur, Blk W10 bD 40 cur ∧ k * 3 ≤ cur.size) := by
        rcases OW10.out.2 with ⟨h1, h2⟩ | ⟨gg, cap, cur, h1, h2, h3, h4, h5, h6, h7⟩
        · exact ⟨w9.heap.size, Nat.le_refl _, fun h => by omega⟩
        · injection h1 with h1 h1' h1''
          exact ⟨gg, h2, fun _ => ⟨h1, cur, h3, by rw [h6]; omega⟩⟩
      have HROW := Lib.hid hrow
      have HNE := Lib.hid (show bD ≠ g ∧ bD ≠ b ∧ bD ≠ 0 ∧ bD ≠ w.heap.size by have := HLO.out; have := HO9.out.size; have := HL9.out; have := HL7.out; omega)
      have hn6 := HNN.out
      have xq : W10.cell? ⟨b, 14, none⟩ = some (.slice D k e) := by have := mt_cell KE10.out (j := 14) rfl; rw [zP_len] at this; exact this
      clear hrow
      go_wp2_with fail
      clear xq
      go_loopg [87] k (fun mm y wq => ∃ (q : Nat) (l : List Pd) (jq : Nat) (bq : Bool), q ≤ k ∧ y = .int .i64 q ∧ mm = k - q ∧ rdRep rdPn q (lb s) j7 b7 = (l, jq, bq) ∧ ROk wq g s jq bq ∧ Blk wq b 42 (mtX { m with tid := v1, c := ⟨v2, v3, v4, v5, v6, [], zP k, 0⟩ } none D 0 e) ∧ Blk wq w.heap.size 114 #[.iface 128 (.agg #[.pointer (some ⟨g, 0, none⟩)]), .pointer (some ⟨b, 0, none⟩)] ∧ (0 < k → ∃ cur, Blk wq bD 40 cur ∧ k * 3 ≤ cur.size ∧ ∀ j, j < q * 3 → cur[j]? = (cellsP l)[j]?) ∧ Only (fun x => x = g ∨ x = bD) W10 wq)
      case atStart => exact ⟨0, [], j7, b7, Nat.zero_le _, rfl, rfl, rfl, HS10.out, KE10.out, KF10.out, fun h => by obtain ⟨_, cur, hk, hs⟩ := HROW.out h; exact ⟨cur, hk, hs, fun j hj => absurd hj (by omega)⟩, Only.refl _ _⟩
      case round =>
        obtain ⟨q, l, jq, bq, hqk, rfl, hmq, hrep, hs, hke, hkf, hcur, ho⟩ := hrel
        have HMQ := Lib.hid hmq
        have HREP := Lib.hid hrep
        have HSq := Lib.hid hs
        have KEq := Lib.hid hke
        have KFq := Lib.hid hkf
        have HCQ := Lib.hid hcur
        have HOq := Lib.hid ho
        clear hmq hrep hs hke hkf hcur ho
        by_cases hlt : q < k
        · have d4 : decide ((q : Int) < (k : Int)) = true := decide_eq_true (by omega)
          have y1 : (0 : Int) ≤ (q : Int) := by omega
          have y2 : (q : Int) < (k : Int) := by omega
          obtain ⟨cur, kc, hsz, hlk⟩ := HCQ.out (by omega)
          obtain ⟨p1, i1, c1, hza⟩ : ∃ v i' b', rdNum (lb s) jq bq 0 1 = (v, i', b') := ⟨_, _, _, rfl⟩
          obtain ⟨p2, i2, c2, hzb⟩ : ∃ v i' b', rdNum (lb s) i1 c1 0 2 = (v, i', b') := ⟨_, _, _, rfl⟩
          obtain ⟨p3, i3, c3, hzc⟩ : ∃ v i' b', rdNum (lb s) i2 c2 0 1048576 = (v, i', b') := ⟨_, _, _, rfl⟩
          have hnx : rdRep rdPn (q + 1) (lb s) j7 b7 = (l ++ [(p1, p2, p3)], i3, c3) := by
            rw [rdRep_snoc, HREP.out]
            have hza' : rdNum (lb s) jq bq ((0 : Nat) : Int) ((1 : Nat) : Int) = (p1, i1, c1) := hza
            have hzb' : rdNum (lb s) i1 c1 ((0 : Nat) : Int) ((2 : Nat) : Int) = (p2, i2, c2) := hzb
            have hzc' : rdNum (lb s) i2 c2 ((0 : Nat) : Int) ((1048576 : Nat) : Int) = (p3, i3, c3) := hzc
            simp only [rdPn, rI, rdMap, rdBind, hza', hzb', hzc']
          have hll : l.length = q := by have := rdRep_len rdPn q (lb s) j7 b7; rw [HREP.out] at this; exact this
          have NM := Lib.hid (rmpend g bD (q * 3) 40 (.pointer (some ⟨b, 0, none⟩)) cur s jq i1 i2 i3 bq c1 c2 c3 p1 p2 p3 wr.drew (RdOk.drew HSq.out) kc.drew (by omega) HNE.out.1 HNE.out.2.2.1 hza hzb hzc)
          have HNX := Lib.hid hnx
          have HLL := Lib.hid hll
          have HLK := Lib.hid (And.intro hsz hlk)
          have xq : wr.drew.cell? ⟨b, 14, none⟩ = some (.slice D k e) := by have := mt_cell KEq.out.drew (j := 14) rfl; rw [zP_len] at this; exact this
          rw [(HROW.out (by omega)).1] at xq
          have xf0 : wr.drew.cell? ⟨w.heap.size, 0, none⟩ = some (.iface 128 (.agg #[.pointer (some ⟨g, 0, none⟩)])) := KFq.out.drew.cell 0
          have xf1 : wr.drew.cell? ⟨w.heap.size, 1, none⟩ = some (.pointer (some ⟨b, 0, none⟩)) := KFq.out.drew.cell 1
          clear hza hzb hzc hnx hll hsz hlk kc
          go_wp2_with fail
          refine wp_region_qtail 7 (by kernel_rfl) (by kernel_rfl) ?_
          simp only [List.take_succ_cons, List.take_zero, List.drop_succ_cons, List.drop_zero]
          repeat (go_big_quiet_step (fail))
          refine wpQuiet_nil ?_
          go_wp2_with fail
          refine NM.out.mono ?_
          rintro e w11 ⟨rfl, hs, hk, ho⟩
          have R1 := Lib.hid hs
          have R2 := Lib.hid (ho.blk KEq.out.drew (fun x => x.elim HBG.out.1 (Ne.symm HNE.out.2.1)))
          have R3 := Lib.hid (ho.blk KFq.out.drew (fun x => x.elim HFG.out.1 (Ne.symm HNE.out.2.2.2)))
          have R4 := Lib.hid (show ∃ cur, Blk w11 bD 40 cur ∧ k * 3 ≤ cur.size ∧ ∀ j, j < (q + 1) * 3 → cur[j]? = (cellsP (l ++ [(p1, p2, p3)]))[j]? from ⟨_, hk, by simp only [Array.size_setIfInBounds]; exact HLK.out.1, look3 HLL.out (by have := HLK.out.1; omega) HLK.out.2 (p1, p2, p3)⟩)
          have R5 := Lib.hid (HOq.out.drew.trans ho)
          clear hs hk ho xq xf0 xf1 NM
          go_wp2_with fail
          go_roundg (k - q - 1)
          case measure => have := HMQ.out; omega
          case rel => exact ⟨q + 1, l ++ [(p1, p2, p3)], i3, c3, by omega, by (first | rfl | (rw [IntWalk.wrap64_in _ (by omega)]; rfl) | (rw [IntWalk.i64_in _ (by omega)]; rfl)), by omega, HNX.out, R1.out, R2.out, R3.out, fun _ => R4.out, R5.out⟩
        · have hqk : q = k := by omega
          subst hqk
          have d4 : decide ((q : Int) < (q : Int)) = false := decide_eq_false (by omega)
          have h8 : (l, jq, bq) = (qs, j8, b8) := by rw [← HREP.out, ← HZ8.out, Int.toNat_natCast]
          injection h8 with h81 h82
          injection h82 with h82 h83
          subst h81; subst h82; subst h83
          have hll : l.length = q := by have := rdRep_len rdPn q (lb s) j7 b7; rw [HREP.out] at this; exact this
          have HLL := Lib.hid hll
          have NM := Lib.hid (rmnum g b 15 42 (mtX { m with tid := v1, c := ⟨v2, v3, v4, v5, v6, [], zP q, 0⟩ } none D 0 e) s jq j9 bq b9 0 1048576 v9 wr.drew (RdOk.drew HSq.out) KEq.out.drew (by rw [mtX_size]; decide) HBG.out.1 HBG.out.2 HZ9.out)
          have xf0 : wr.drew.cell? ⟨w.heap.size, 0, none⟩ = some (.iface 128 (.agg #[.pointer (some ⟨g, 0, none⟩)])) := KFq.out.drew.cell 0
          clear hll
          go_wp2_with fail
          refine wp_region_qtail 7 (by kernel_rfl) (by kernel_rfl) ?_
          simp only [List.take_succ_cons, List.take_zero, List.drop_succ_cons, List.drop_zero]
          repeat (go_big_quiet_step (fail))
          refine wpQuiet_nil ?_
          go_wp2_with fail
          refine NM.out.mono ?_
          rintro e' w11 ⟨rfl, hs, hk, ho⟩
          have R1 := Lib.hid hs
          have R2 := Lib.hid (show Blk w11 b 42 (mtX { m with tid := v1, c := ⟨v2, v3, v4, v5, v6, [], l, v9⟩ } none D 0 e) from by
            rw [mtX_qs1 m v1 v2 v3 v4 v5 v6 v9 [] l (zP q) none D 0 e (by rw [HLL.out, zP_len])]
            exact hk)
          have R3 := Lib.hid (show Reads w11 w11.heap.size 3 D l.length (cellsP l) from by
            by_cases h0 : 0 < q
            · obtain ⟨cur, kc, hsz, hlk⟩ := HCQ.out h0
              rw [(HROW.out h0).1, HLL.out]
              exact reads_look (ho.blk kc.drew (fun x => x.elim HNE.out.1 HNE.out.2.1)) HLL.out hlk
            · have : l = [] := List.eq_nil_of_length_eq_zero (by have := HLL.out; omega)
              subst this
              exact ⟨rfl, fun h => absurd h (by decide)⟩)
          have R5 := Lib.hid (((HO9.out.trans (HO10.out.mono (fun x _ hx => .inr hx))).step HOq.out.drew (fun x hx hs => hs.elim .inl (fun y => by have := HLO.out; have := HO9.out.size; have := HL9.out; have := HL7.out; omega))).trans ho)
          clear hs hk ho xf0 NM
          go_wp2_with fail
          go_end0
          exact ⟨rfl, R1.out, ⟨D, e, R2.out, R3.out, fun ad h0 hd => by
            have h0 : 0 < l.length := h0
            rw [(HROW.out (by have := HLL.out; omega)).1] at hd
            injection hd with hd
            subst hd
            show w.heap.size ≤ bD
            have := HL9.out; have := HL7.out; omega⟩, R5.out⟩
end Go.Proofs.YtbpkckahonmpkaaGreatDoor
namespace Go.Proofs.YtbpkckahonmpkaaGreatDoor
open Go.RowKit
theorem rrk_up {B g i : Nat} {W : World} {s : ByteArray} {b : Bool} (h : RrOk B W g s i b) : RrOk W.heap.size W g s i b :=
  ⟨h.1, h.2.1, h.2.2.1, by have := h.2.2.2.1; have := h.2.2.2.2; omega, Nat.le_refl _⟩
set_option maxRecDepth 100000 in
set_option maxHeartbeats 2000000 in
theorem rtpend (B g : Nat) (s : ByteArray) (i j1 j2 j3 : Nat) (bad b1 b2 b3 : Bool) (v1 v2 v3 : Int) (w : World) (h : RrOk B w g s i bad)
    (hz1 : rdNum (lb s) i bad 0 1 = (v1, j1, b1)) (hz2 : rdNum (lb s) j1 b1 0 2 = (v2, j2, b2)) (hz3 : rdNum (lb s) j2 b2 0 1048576 = (v3, j3, b3)) :
    Calls Tryz.prog 56 #[.pointer (some ⟨g, 0, none⟩)] w (RrZ B g s (.agg #[.int .i64 v1, .int .i64 v2, .int .i64 v3]) j3 b3 w) := by
  obtain ⟨W0, hW0⟩ : ∃ W0, W0 = w.alloc (.cells #[.int .i64 0, .int .i64 0, .int .i64 0] 40) := ⟨_, rfl⟩
  have R0 := Lib.hid (show RrOk B W0 g s i bad by rw [hW0]; exact h.alloc _)
  have K0 := Lib.hid (show Blk W0 w.heap.size 40 #[.int .i64 0, .int .i64 0, .int .i64 0] by rw [hW0]; exact Blk.new w _ _)
  have O0 := Lib.hid (show Only (fun x => x = g) w W0 by rw [hW0]; exact (Only.refl _ _).alloc _)
  have HNE := Lib.hid (show ¬ w.heap.size = g by have := h.2.2.2.1; have := h.2.2.2.2; omega)
  have HBW := Lib.hid h.2.2.2.2
  have HW := Lib.hid hW0
  have HZ1 := Lib.hid hz1
  have HZ2 := Lib.hid hz2
  have HZ3 := Lib.hid hz3
  clear hW0 h hz1 hz2 hz3
  go_enter Tryz.func56, Tryz.ntmps56
  go_upto_region 1 with (fail)
  rw [← HW.out]
  have N1 := Lib.hid (rRNum_z HZ1.out R0.out)
  go_wp2_with fail
  refine N1.out.mono ?_
  rintro e w1 ⟨rfl, r1, o1⟩
  have K1 := Lib.hid (o1.blk K0.out HNE.out)
  have O1 := Lib.hid (O0.out.trans o1)
  have N2 := Lib.hid (rRNum_z HZ2.out r1)
  clear r1 o1
  go_wp2_with fail
  refine N2.out.mono ?_
  rintro e w2 ⟨rfl, r2, o2⟩
  have K2 := Lib.hid (o2.blk K1.out HNE.out)
  have O2 := Lib.hid (O1.out.trans o2)
  have N3 := Lib.hid (rRNum_z HZ3.out r2)
  clear r2 o2
  go_wp2_with fail
  refine N3.out.mono ?_
  rintro e w3 ⟨rfl, r3, o3⟩
  have k3 := o3.blk K2.out HNE.out
  have u0 := k3.cell 0
  have u1 := k3.cell 1
  have u2 := k3.cell 2
  have z0 := k3.frozen 0
  have z1 := k3.frozen 1
  have z2 := k3.frozen 2
  have R3 := Lib.hid r3
  have O3 := Lib.hid (O2.out.trans o3)
  have HL3 := Lib.hid (show w.heap.size < w3.heap.size from k3.lt)
  clear r3 o3 k3
  go_wp2_with fail
  refine bodyPost_ret (v := .agg #[.int .i64 v1, .int .i64 v2, .int .i64 v3]) (by simp [results, Tryz.results56, go_sem, u0, u1, u2]) rfl ?_
  exact ⟨rfl, ((R3.out.set HBW.out _).set HBW.out _).set HBW.out _, ((O3.out.set (.inr (Nat.le_refl _)) _).set (.inr (Nat.le_refl _)) _).set (.inr (Nat.le_refl _)) _⟩
abbrev coA (v2 v3 v4 v5 v6 : Int) (v : Value) (ag : Int) : Array Value := #[.int .i8 v2, .int .i64 v3, .int .i64 v4, .int .i64 v5, .int .i64 v6, .slice none 0 0, v, .int .i64 ag]
/-- What holds while the offsets are read. -/
def CtS (w : World) (g : Nat) (s : ByteArray) (v2 v3 v4 v5 v6 : Int) (i5 : Nat) (b5 : Bool) (k : Nat) (W : World) : Prop :=
  ∃ i b qs v, rdRep rdPn k (lb s) i5 b5 = (qs, i, b) ∧ TrW w g (w.heap.size + 1) s 29 #[.int .i8 0, .int .i64 0, .int .i64 0, .int .i64 0, .int .i64 0, .slice none 0 0, .slice none 0 0, .int .i64 0] i b (coA v2 v3 v4 v5 v6 v 0) W ∧ W.ownsRow (w.heap.size + 1 + 1) 40 3 v k (cellsP qs) ∧ qs.length = k
theorem reads_pd (w : World) (t : TypeId) (p : Pd) (g : Nat) (hg : w.heap.size = g) : Reads (w.alloc (.cells #[.int .i64 p.1, .int .i64 p.2.1, .int .i64 p.2.2] t)) (g + 1) 3 (some ⟨g, 0, none⟩) 1 (cellsP [p]) := by
  subst hg
  refine ⟨by rw [length_cellsP]; rfl, fun _ => ⟨_, rfl, Nat.lt_succ_self _, fun j u hu => ?_⟩⟩
  rw [add_none, Nat.zero_add]
  rw [(Blk.new w t _).cell j]
  simpa [cellsP] using hu
set_option maxRecDepth 100000 in
set_option maxHeartbeats 8000000 in
theorem rtcoord (g : Nat) (s : ByteArray) (i : Nat) (bad : Bool) {v2 v3 v4 v5 v6 v7 v9 : Int} {qs : List Pd} {j2 j3 j4 j5 j6 j7 j8 j9 : Nat} {b2 b3 b4 b5 b6 b7 b8 b9 : Bool} (hz2 : rdNum (lb s) i bad 0 100 = (v2, j2, b2)) (hz3 : rdNum (lb s) j2 b2 0 8 = (v3, j3, b3)) (hz4 : rdNum (lb s) j3 b3 0 100 = (v4, j4, b4)) (hz5 : rdNum (lb s) j4 b4 0 20 = (v5, j5, b5)) (hz6 : rdNum (lb s) j5 b5 0 20 = (v6, j6, b6)) (hz7 : rdNum (lb s) j6 b6 0 6 = (v7, j7, b7)) (hz8 : rdRep rdPn v7.toNat (lb s) j7 b7 = (qs, j8, b8)) (hz9 : rdNum (lb s) j8 b8 0 1048576 = (v9, j9, b9))
    (w : World) (h : RrOk w.heap.size w g s i bad) :
    Calls Tryz.prog 58 #[.pointer (some ⟨g, 0, none⟩)] w fun e w' => ∃ D e', e = .returned (.agg #[.int .i8 v2, .int .i64 v3, .int .i64 v4, .int .i64 v5, .int .i64 v6, .slice none 0 0, .slice D qs.length e', .int .i64 v9]) ∧ RrOk w.heap.size w' g s j9 b9 ∧ Only (fun x => x = g) w w' ∧ Reads w' w'.heap.size 3 D qs.length (cellsP qs) ∧ (∀ ad, 0 < qs.length → D = some ad → w.heap.size ≤ ad.block) := by
  obtain ⟨i0, hi, hi0, hi1, hi2⟩ := info_parts infoPdF
  obtain ⟨W0, hW0⟩ : ∃ W0, W0 = (w.alloc (.cells #[.int .i8 0, .int .i64 0, .int .i64 0, .int .i64 0, .int .i64 0, .slice none 0 0, .slice none 0 0, .int .i64 0] 29)).alloc (.cells #[.int .i8 0, .int .i64 0, .int .i64 0, .int .i64 0, .int .i64 0, .slice none 0 0, .slice none 0 0, .int .i64 0] 29) := ⟨_, rfl⟩
  have hgw := h.2.2.2.1
  have T0 := Lib.hid (show TrW w g (w.heap.size + 1) s 29 #[.int .i8 0, .int .i64 0, .int .i64 0, .int .i64 0, .int .i64 0, .slice none 0 0, .slice none 0 0, .int .i64 0] i bad (coA 0 0 0 0 0 (.slice none 0 0) 0) W0 by
    rw [hW0]
    exact ⟨(h.alloc _).alloc _, ((Goes.refl hgw).alloc _).alloc _, (Blk.new w _ _).alloc _, bk_new _ 29 _ (by simp), by omega⟩)
  have HW := Lib.hid hW0
  have HV2 := Lib.hid (show 0 ≤ v2 ∧ v2 ≤ 100 by rcases rdNum_rng hz2 with h | h <;> omega)
  have HV7 := Lib.hid (show 0 ≤ v7 ∧ v7 ≤ 6 by rcases rdNum_rng hz7 with h | h <;> omega)
  have wc8 : IntKind.i8.wrap v2 = v2 := IntWalk.i8_in _ (by have := HV2.out; omega)
  have HZ2 := Lib.hid hz2
  have HZ3 := Lib.hid hz3
  have HZ4 := Lib.hid hz4
  have HZ5 := Lib.hid hz5
  have HZ6 := Lib.hid hz6
  have HZ7 := Lib.hid hz7
  have HZ8 := Lib.hid hz8
  have HZ9 := Lib.hid hz9
  clear hW0 h hz2 hz3 hz4 hz5 hz6 hz7 hz8 hz9
  go_enter Tryz.func58, Tryz.ntmps58
  go_upto_region 2 with (fail)
  rw [← HW.out]
  have NM := Lib.hid (rRNum_z HZ2.out T0.out.ok)
  go_wp2_with fail
  refine NM.out.mono ?_
  rintro e w1 ⟨rfl, r, o⟩
  have t := T0.out.next r o
  have y0 := t.2.2.2.1.cell 0
  have z0 := t.2.2.2.1.frozen 0
  have T1 := Lib.hid (show TrW w g (w.heap.size + 1) s 29 #[.int .i8 0, .int .i64 0, .int .i64 0, .int .i64 0, .int .i64 0, .slice none 0 0, .slice none 0 0, .int .i64 0] j2 b2 (coA v2 0 0 0 0 (.slice none 0 0) 0) (w1.setCell ⟨w.heap.size + 1, 0, none⟩ (.int .i8 v2)) from t.set 0 (.int .i8 v2))
  clear r o t NM
  have NM := Lib.hid (rRNum_z HZ3.out T1.out.ok)
  go_wp2_with fail
  refine NM.out.mono ?_
  rintro e w2 ⟨rfl, r, o⟩
  have t := T1.out.next r o
  have y0 := t.2.2.2.1.cell 1
  have z0 := t.2.2.2.1.frozen 1
  have T2 := Lib.hid (show TrW w g (w.heap.size + 1) s 29 #[.int .i8 0, .int .i64 0, .int .i64 0, .int .i64 0, .int .i64 0, .slice none 0 0, .slice none 0 0, .int .i64 0] j3 b3 (coA v2 v3 0 0 0 (.slice none 0 0) 0) (w2.setCell ⟨w.heap.size + 1, 1, none⟩ (.int .i64 v3)) from t.set 1 (.int .i64 v3))
  clear r o t NM
  have NM := Lib.hid (rRNum_z HZ4.out T2.out.ok)
  go_wp2_with fail
  refine NM.out.mono ?_
  rintro e w3 ⟨rfl, r, o⟩
  have t := T2.out.next r o
  have y0 := t.2.2.2.1.cell 2
  have z0 := t.2.2.2.1.frozen 2
  have T3 := Lib.hid (show TrW w g (w.heap.size + 1) s 29 #[.int .i8 0, .int .i64 0, .int .i64 0, .int .i64 0, .int .i64 0, .slice none 0 0, .slice none 0 0, .int .i64 0] j4 b4 (coA v2 v3 v4 0 0 (.slice none 0 0) 0) (w3.setCell ⟨w.heap.size + 1, 2, none⟩ (.int .i64 v4)) from t.set 2 (.int .i64 v4))
  clear r o t NM
  have NM := Lib.hid (rRNum_z HZ5.out T3.out.ok)
  go_wp2_with fail
  refine NM.out.mono ?_
  rintro e w4 ⟨rfl, r, o⟩
  have t := T3.out.next r o
  have y0 := t.2.2.2.1.cell 3
  have z0 := t.2.2.2.1.frozen 3
  have T4 := Lib.hid (show TrW w g (w.heap.size + 1) s 29 #[.int .i8 0, .int .i64 0, .int .i64 0, .int .i64 0, .int .i64 0, .slice none 0 0, .slice none 0 0, .int .i64 0] j5 b5 (coA v2 v3 v4 v5 0 (.slice none 0 0) 0) (w4.setCell ⟨w.heap.size + 1, 3, none⟩ (.int .i64 v5)) from t.set 3 (.int .i64 v5))
  clear r o t NM
  have NM := Lib.hid (rRNum_z HZ6.out T4.out.ok)
  go_wp2_with fail
  refine NM.out.mono ?_
  rintro e w5 ⟨rfl, r, o⟩
  have t := T4.out.next r o
  have y0 := t.2.2.2.1.cell 4
  have z0 := t.2.2.2.1.frozen 4
  have T5 := Lib.hid (show TrW w g (w.heap.size + 1) s 29 #[.int .i8 0, .int .i64 0, .int .i64 0, .int .i64 0, .int .i64 0, .slice none 0 0, .slice none 0 0, .int .i64 0] j6 b6 (coA v2 v3 v4 v5 v6 (.slice none 0 0) 0) (w5.setCell ⟨w.heap.size + 1, 4, none⟩ (.int .i64 v6)) from t.set 4 (.int .i64 v6))
  clear r o t NM
  have NM := Lib.hid (rRNum_z HZ7.out T5.out.ok)
  go_wp2_with fail
  refine NM.out.mono ?_
  rintro e w6 ⟨rfl, r, o⟩
  obtain ⟨m, hm⟩ : ∃ m : Nat, v7 = (m : Int) := Int.eq_ofNat_of_zero_le HV7.out.1
  subst hm
  have HM6 := Lib.hid (show m ≤ 6 by have := HV7.out.2; omega)
  have S0 := Lib.hid (show CtS w g s v2 v3 v4 v5 v6 j7 b7 0 w6 from ⟨j7, b7, [], .slice none 0 0, rfl, T5.out.next r o, World.ownsRow_nil _ _ _ _, rfl⟩)
  clear r o NM T0 T1 T2 T3 T4 T5 y0 z0
  go_wp2_with fail
  go_loopg [5] m (fun mm x wr => ∃ k : Nat, k ≤ m ∧ x = .int .i64 k ∧ mm = m - k ∧ CtS w g s v2 v3 v4 v5 v6 j7 b7 k wr)
  case atStart => exact ⟨0, Nat.zero_le _, rfl, rfl, S0.out⟩
  case round =>
    clear S0
    obtain ⟨k, hk, rfl, hmm, i6, c6, l, v, hrep, t6, ho, hl⟩ := hrel
    have HMM := Lib.hid hmm
    have HREP := Lib.hid hrep
    have HL := Lib.hid hl
    have HO := Lib.hid ho
    have T6 := Lib.hid t6
    clear hmm hrep hl ho t6
    by_cases hlt : k < m
    · have d1 : decide ((k : Int) < (m : Int)) = true := decide_eq_true (by omega)
      have hm6 := HM6.out
      obtain ⟨p1, i1, c1, hza⟩ : ∃ v i' b', rdNum (lb s) i6 c6 0 1 = (v, i', b') := ⟨_, _, _, rfl⟩
      obtain ⟨p2, i2, c2, hzb⟩ : ∃ v i' b', rdNum (lb s) i1 c1 0 2 = (v, i', b') := ⟨_, _, _, rfl⟩
      obtain ⟨p3, i3, c3, hzc⟩ : ∃ v i' b', rdNum (lb s) i2 c2 0 1048576 = (v, i', b') := ⟨_, _, _, rfl⟩
      have hnx : rdRep rdPn (k + 1) (lb s) j7 b7 = (l ++ [(p1, p2, p3)], i3, c3) := by
        rw [rdRep_snoc, HREP.out]
        have hza' : rdNum (lb s) i6 c6 ((0 : Nat) : Int) ((1 : Nat) : Int) = (p1, i1, c1) := hza
        have hzb' : rdNum (lb s) i1 c1 ((0 : Nat) : Int) ((2 : Nat) : Int) = (p2, i2, c2) := hzb
        have hzc' : rdNum (lb s) i2 c2 ((0 : Nat) : Int) ((1048576 : Nat) : Int) = (p3, i3, c3) := hzc
        simp only [rdPn, rI, rdMap, rdBind, hza', hzb', hzc']
      have TP := Lib.hid (rtpend w.heap.size g s i6 i1 i2 i3 c6 c1 c2 c3 p1 p2 p3 wr.drew T6.out.drew.ok hza hzb hzc)
      have HNX := Lib.hid hnx
      have hrow : ∀ x, v.ownBlock = some x → w.heap.size < x ∧ x ≠ w.heap.size + 1 := fun x hx => by have := (HO.out.lt x hx).1; omega
      have HROW := Lib.hid hrow
      clear hza hzb hzc hnx hrow
      go_wp2_with fail
      have y4 := (T6.out.drew).2.2.2.1.cell 6
      go_region_law
        (first
          | ((refine step_append_any _ (by rfl) (.tmp 30) (.tmp 33) 27 (by rfl) (w.heap.size + 1 + 1) 40 i0 _ 3 24 Tryz.underlying27 hi hi0 hi1 hi2 rfl (by decide) v k _ (by rfl) (ho8.alloc _) _ _ 1 1 (cellsP [(p1, p2, p3)]) (by rfl) (reads_pd _ _ (p1, p2, p3) _ rfl) (cellsP_one _) (by unfold maxLen; omega) (by omega) (by have := t8.2.2.2.1.lt; simp; omega) ?_); intro v' w9 hown' hgrow hat'; obtain ⟨A8, c8, rfl, hc8⟩ := own_slice hown'; have t9 := (t8.alloc _).grown hgrow HROW.out; have z4 := t9.2.2.2.1.cell 6; have z5 := t9.2.2.2.1.frozen 6)
          | (go_simp; go_at_call 56; refine TP.out.mono ?_; rintro e w8 ⟨rfl, k8, o8⟩; have t8 := T6.out.drew.next k8 o8; have ho8 := o8.own HO.out.drew (fun x hx e => by have := T6.out.2.1.2.2; omega); have y8 := t8.2.2.2.1.cell 6; have n8 : ∀ o, (w8.alloc o).cell? ⟨w.heap.size + 1, 6, none⟩ = some v := fun o => (t8.alloc o).2.2.2.1.cell 6))
      all_goals
        go_wp2_with fail
        go_roundg (m - k - 1)
        case measure => have := HMM.out; omega
        case rel => exact ⟨k + 1, by omega, by (first | rfl | go_num), by omega, i3, c3, l ++ [(p1, p2, p3)], _, HNX.out, t9.set 6 _, own_set (by rw [cellsP_append]; exact hown') (Nat.lt_succ_self _) _, by rw [List.length_append, HL.out]; rfl⟩
    · obtain rfl : k = m := by omega
      have d1 : decide ((k : Int) < (k : Int)) = false := decide_eq_false (by omega)
      have h8 : (l, i6, c6) = (qs, j8, b8) := by rw [← HREP.out, ← HZ8.out, Int.toNat_natCast]
      injection h8 with h81 h82
      injection h82 with h82 h83
      subst h81; subst h82; subst h83
      obtain ⟨D, e', rfl, hc6⟩ := own_slice HO.out
      obtain rfl : k = l.length := HL.out.symm
      have NM := Lib.hid (rRNum_z HZ9.out T6.out.ok)
      go_wp2_with fail
      refine NM.out.mono ?_
      rintro e w7 ⟨rfl, r, o⟩
      have t7 := T6.out.next r o
      have y7 := t7.2.2.2.1.cell 7
      have f7 := t7.2.2.2.1.frozen 7
      have ho7 := own_set (o := 7) (o.own HO.out (fun x hx e => by have := T6.out.2.1.2.2; omega)) (Nat.lt_succ_self (w.heap.size + 1)) (.int .i64 v9)
      have t8 : TrW w g (w.heap.size + 1) s 29 #[.int .i8 0, .int .i64 0, .int .i64 0, .int .i64 0, .int .i64 0, .slice none 0 0, .slice none 0 0, .int .i64 0] j9 b9 (coA v2 v3 v4 v5 v6 (.slice D l.length e') v9) (w7.setCell ⟨w.heap.size + 1, 7, none⟩ (.int .i64 v9)) := t7.set 7 (.int .i64 v9)
      have HO8 := Lib.hid ho7
      have T8 := Lib.hid t8
      obtain ⟨W8, hW8⟩ : ∃ W8, W8 = w7.setCell ⟨w.heap.size + 1, 7, none⟩ (.int .i64 v9) := ⟨_, rfl⟩
      have HW8 := Lib.hid hW8
      rw [← hW8] at HO8 T8
      clear r o t7 ho7 t8 NM hW8
      go_upto_region 13 with (fail)
      rw [← HW8.out]
      clear y7 f7
      have a0 := T8.out.2.2.2.1.cell 0
      have u0 := T8.out.2.2.1.cell 0
      have z0 := T8.out.2.2.1.frozen 0
      have a1 := T8.out.2.2.2.1.cell 1
      have u1 := T8.out.2.2.1.cell 1
      have z1 := T8.out.2.2.1.frozen 1
      have a2 := T8.out.2.2.2.1.cell 2
      have u2 := T8.out.2.2.1.cell 2
      have z2 := T8.out.2.2.1.frozen 2
      have a3 := T8.out.2.2.2.1.cell 3
      have u3 := T8.out.2.2.1.cell 3
      have z3 := T8.out.2.2.1.frozen 3
      have a4 := T8.out.2.2.2.1.cell 4
      have u4 := T8.out.2.2.1.cell 4
      have z4 := T8.out.2.2.1.frozen 4
      have a5 := T8.out.2.2.2.1.cell 5
      have u5 := T8.out.2.2.1.cell 5
      have z5 := T8.out.2.2.1.frozen 5
      have a6 := T8.out.2.2.2.1.cell 6
      have u6 := T8.out.2.2.1.cell 6
      have z6 := T8.out.2.2.1.frozen 6
      have a7 := T8.out.2.2.2.1.cell 7
      have u7 := T8.out.2.2.1.cell 7
      have z7 := T8.out.2.2.1.frozen 7
      go_wp2_with fail
      refine bodyPost_ret (v := .agg #[.int .i8 v2, .int .i64 v3, .int .i64 v4, .int .i64 v5, .int .i64 v6, .slice none 0 0, .slice D l.length e', .int .i64 v9]) (by simp [results, Tryz.results58, go_sem, u0, u1, u2, u3, u4, u5, u6, u7]) rfl ?_
      have hlt : w.heap.size < w.heap.size + 1 + 1 := by omega
      exact ⟨D, e', rfl, ((((((((T8.out.1.set (Nat.le_refl _) _).set (Nat.le_refl _) _).set (Nat.le_refl _) _).set (Nat.le_refl _) _).set (Nat.le_refl _) _).set (Nat.le_refl _) _).set (Nat.le_refl _) _).set (Nat.le_refl _) _), ((((((((T8.out.2.1.set (Nat.le_refl _) _).set (Nat.le_refl _) _).set (Nat.le_refl _) _).set (Nat.le_refl _) _).set (Nat.le_refl _) _).set (Nat.le_refl _) _).set (Nat.le_refl _) _).set (Nat.le_refl _) _).1, Reads.of_own (own_set (own_set (own_set (own_set (own_set (own_set (own_set (own_set HO8.out hlt _) hlt _) hlt _) hlt _) hlt _) hlt _) hlt _) hlt _), fun ad h0 hd => by subst hd; have := (HO8.out.lt _ rfl).1; omega⟩
end Go.Proofs.YtbpkckahonmpkaaGreatDoor
