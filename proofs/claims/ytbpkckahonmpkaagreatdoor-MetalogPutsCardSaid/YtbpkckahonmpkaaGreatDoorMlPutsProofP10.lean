/-
  Layer 19: metalog.code, write, Bytes.
-/
import Derived.Test.YtbpkckahonmpkaaGreatDoorMlPutsProofP09
set_option linter.unusedVariables false
set_option linter.unusedSimpArgs false
namespace Go.Proofs.YtbpkckahonmpkaaGreatDoor
open Go.RowKit
set_option maxHeartbeats 1000000 in
theorem mlcode_nil (w : World) : Calls Tryz.prog 40 #[.nilIface] w fun e w' => e = .returned (.int .i64 0) ∧ Below w.heap.size w w' := by
  have HB := Lib.hid (fun x => bal (Below.refl w.heap.size w) x)
  go_enter Tryz.func40, Tryz.ntmps40
  go_wp2_with fail
  go_ret
  exact ⟨rfl, HB.out _⟩
set_option maxHeartbeats 1000000 in
theorem mlcode_fault (b : Nat) (n : Int) (w : World) (hg : HasET w) (hb1 : w.cell? ⟨b, 1, none⟩ = some (.int .i64 n)) :
    Calls Tryz.prog 40 #[.iface 102 (.pointer (some ⟨b, 0, none⟩))] w fun e w' => e = .returned (.int .i64 n) ∧ Below w.heap.size w w' := by
  have hg1 : HasET (w.alloc (.cells #[.int .i64 0] 35)) := hg.up (bal (Below.refl _ _) _)
  have hb2 := (World.cell?_alloc_lt w (.cells #[.int .i64 0] 35) ⟨b, 1, none⟩ (cell_lt hb1)).trans hb1
  have HIS := Lib.hid (ErMl.is_any b n 70 (w.alloc (.cells #[.int .i64 0] 35)) hb2)
  have HAS := Lib.hid (ErMl.as_any b w.heap.size n (.int .i64 0) (w.alloc (.cells #[.int .i64 0] 35)) hg1 hb2 (by simp) (by simp))
  have HB := Lib.hid (fun x => bal (Below.refl w.heap.size w) x)
  have HC := Lib.hid (asW_cell w n)
  have HAB := Lib.hid (asW_below w n)
  clear hg1 hb2 hb1 hg
  by_cases h2 : n = 70
  · subst h2
    go_enter Tryz.func40, Tryz.ntmps40
    go_wp2_with (go_at_call 69; refine HIS.out.mono ?_; rintro e w1 ⟨rfl, rfl⟩)
    go_ret
    exact ⟨rfl, HB.out _⟩
  · have d2 : (n == 70) = false := eqb_false h2
    go_enter Tryz.func40, Tryz.ntmps40
    go_wp2_with (first | (go_at_call 69; refine HIS.out.mono ?_; rintro e w1 ⟨rfl, rfl⟩) | (go_at_call 70; refine HAS.out.mono ?_; rintro e w1 ⟨rfl, hw1⟩; have hc1 : w1.cell? ⟨w.heap.size, 0, none⟩ = some (.int .i64 n) := (by rw [← hw1]; exact HC.out); have HW1 := Lib.hid hw1; clear hw1))
    go_ret
    exact ⟨rfl, by rw [← HW1.out]; exact HAB.out⟩
/-- What write hands back where the entry may not be. -/
def MwNo (n : Int) (v : Value) (w : World) (e : Ending) (w' : World) : Prop :=
  ∃ b, e = .returned (.tuple #[v, .iface 102 (.pointer (some ⟨b, 0, none⟩))]) ∧ w'.cell? ⟨b, 1, none⟩ = some (.int .i64 n) ∧ Below w.heap.size w w'
section
attribute [-go_sem] loadCells
set_option maxRecDepth 100000 in
set_option maxHeartbeats 4000000 in
theorem mlwrite_no (m : Mt) (A D : Option Addr) (c e : Nat) (w : World) (h : CoR w w.heap.size m.c A D) (hm : mayM m = false) :
    Calls Tryz.prog 39 #[.agg (mtX m A D c e)] w (MwNo 2 (.string ByteArray.empty) w) := by
  obtain ⟨W0, hW0⟩ : ∃ W0, W0 = w.alloc (.cells (mtX m A D c e) 42) := ⟨_, rfl⟩
  have B0 : Below w.heap.size w W0 := by rw [hW0]; exact bal (Below.refl _ _) _
  have K0 : Blk W0 w.heap.size 42 (mtX m A D c e) := by rw [hW0]; exact Blk.new w 42 _
  have l0 := mt_load (P := Tryz.prog) K0
  have MY := Lib.hid (mMay_all m A D c e W0.heap.size W0 (h.up B0) (Nat.le_refl _))
  rw [hm] at MY
  have HB := Lib.hid B0
  have HW := Lib.hid hW0
  clear hW0 B0 K0 h hm
  go_enter Tryz.func39, Tryz.ntmps39
  go_upto_region 1 with (fail)
  rw [← HW.out]
  go_wp2_with fail
  refine MY.out.mono ?_
  rintro e w1 ⟨rfl, b1⟩
  have B1 := Lib.hid (HB.out.trans (b1.mono HB.out.size))
  clear b1 l0
  go_wp2_with fail
  go_ret2
  exact ⟨_, rfl, by simp, bal B1.out _⟩
set_option maxRecDepth 100000 in
set_option maxHeartbeats 4000000 in
theorem mlwrite_ok (m : Mt) (A D : Option Addr) (c e : Nat) (w : World) (h : CoR w w.heap.size m.c A D) (hm : mayM m = true) :
    Calls Tryz.prog 39 #[.agg (mtX m A D c e)] w fun e w' => e = .returned (.tuple #[.string (bs (encM m)), .nilIface]) ∧ Below w.heap.size w w' := by
  obtain ⟨W0, hW0⟩ : ∃ W0, W0 = w.alloc (.cells (mtX m A D c e) 42) := ⟨_, rfl⟩
  have s0 : W0.heap.size = w.heap.size + 1 := by rw [hW0]; simp
  have B0 : Below w.heap.size w W0 := by rw [hW0]; exact bal (Below.refl _ _) _
  have K0 : Blk W0 w.heap.size 42 (mtX m A D c e) := by rw [hW0]; exact Blk.new w 42 _
  have l0 := mt_load (P := Tryz.prog) K0
  have MY := Lib.hid (mMay_all m A D c e W0.heap.size W0 (h.up B0) (Nat.le_refl _))
  rw [hm] at MY
  have hkd : 0 ≤ m.kd ∧ m.kd ≤ 7 := (cI_v 0 7 m.kd (by decide)).1 (cMt_v (K := 7) (S := 6) (by decide) (by decide) (by decide) (by decide) hm).2.1
  have wc : IntKind.i64.wrap m.kd = m.kd := IntWalk.i64_in _ (by omega)
  have HB := Lib.hid B0
  have HK := Lib.hid K0
  have HW := Lib.hid hW0
  have HS := Lib.hid s0
  have HKD := Lib.hid hkd
  have HM := Lib.hid hm
  have HD := Lib.hid h.2.1
  clear hW0 B0 K0 h hm hkd s0
  go_enter Tryz.func39, Tryz.ntmps39
  go_upto_region 1 with (fail)
  rw [← HW.out]
  go_wp2_with fail
  refine MY.out.mono ?_
  rintro e w1 ⟨rfl, b1⟩
  have B1 := Lib.hid (HB.out.trans (b1.mono HB.out.size))
  have KE1 := Lib.hid (HK.out.below b1 HK.out.lt)
  have lt1 : w.heap.size < w1.heap.size := by have := HS.out; have := b1.size; omega
  have LT1 := Lib.hid lt1
  have x0 : (w1.alloc (.cells #[.slice none 0 0, .int .i64 0] 107)).cell? ⟨w.heap.size, 0, none⟩ = some (.int .i8 m.kd) := mt_cell (KE1.out.alloc _) (j := 0) rfl
  obtain ⟨W2, hW2⟩ : ∃ W2, W2 = (w1.alloc (.cells #[.slice none 0 0, .int .i64 0] 107)).alloc (.cells #[.int .i64 m.kd] 3) := ⟨_, rfl⟩
  have KE2 := Lib.hid (show Blk W2 w.heap.size 42 (mtX m A D c e) by rw [hW2]; exact (KE1.out.alloc _).alloc _)
  have s2 : W2.heap.size = w1.heap.size + 1 + 1 := by rw [hW2]; simp
  have B2 := Lib.hid (show Below w.heap.size w W2 by rw [hW2]; exact bal (bal B1.out _) _)
  have HS2 := Lib.hid (show WmS w1.heap.size W2.heap.size [] W2 from ⟨none, 0, by rw [hW2]; exact (Blk.new w1 107 #[.slice none 0 0, .int .i64 0]).alloc _, World.ownsRow_nil _ _ _ _, by omega, Nat.le_refl _⟩)
  have KN := Lib.hid (show Blk W2 (w1.heap.size + 1) 3 #[.int .i64 m.kd] by rw [hW2]; exact bk_new _ 3 _ (by simp))
  have nm := wmnum w1.heap.size W2.heap.size [] (w1.heap.size + 1) 0 m.kd 0 7 W2 HS2.out (KN.out.cell 0) (by have := HKD.out; omega) (by have := HKD.out; omega) (by simp)
  have S2 := Lib.hid s2
  rw [List.nil_append] at nm
  have HW2 := Lib.hid hW2
  have NM := Lib.hid (show Calls Tryz.prog 67 #[.pointer (some ⟨w1.heap.size, 0, none⟩), .pointer (some ⟨w1.heap.size + 1, 0, none⟩), .int .i64 0, .int .i64 7] ((w1.alloc (.cells #[.slice none 0 0, .int .i64 0] 107)).alloc (.cells #[.int .i64 m.kd] 3)) (WmOk w1.heap.size W2.heap.size (enc m.kd.toNat) W2) from by rw [← HW2.out]; exact nm)
  clear hW2 b1 lt1 s2 nm l0
  go_wp2_with fail
  refine NM.out.mono ?_
  rintro e w3 ⟨rfl, hs, ho⟩
  have KE3 := Lib.hid (ho.blk KE2.out (by have := LT1.out; omega))
  have NA := Lib.hid (wmall w1.heap.size W2.heap.size (enc m.kd.toNat) w.heap.size w.heap.size m A D c e w3 hs KE3.out (by have := LT1.out; omega) (((HD.out.below B2.out)) |> fun k => ho.reads k (by have := B2.out.size; omega) (fun x hx e => by have := LT1.out; omega)) ⟨by have := LT1.out; omega, Nat.le_refl _, by have := LT1.out; have := S2.out; omega, by have := B2.out.size; have := ho.size; omega⟩ HM.out (by have := enc_bt (n := m.kd) (by have := HKD.out; omega); omega))
  have HO3 := Lib.hid ho
  clear hs ho x0
  go_wp2_with fail
  refine NA.out.mono ?_
  rintro e w4 ⟨rfl, ⟨AZ, cZ, kz, oz, _, _⟩, _, ho⟩
  have BZ := Lib.hid (show Below w.heap.size w w4 from B2.out.trans (((HO3.out.mono (S' := fun x => x = w1.heap.size ∨ x = w.heap.size) (fun _ _ h => .inl h)).trans ho).below (B := w.heap.size) B2.out.size (fun y hy => by have := LT1.out; omega)))
  have a0 := kz.cell 0
  have a1 := kz.cell 1
  have t1 := run_string_of (P := Tryz.prog) (src := 75) (dst := 9) (c := cZ) Tryz.underlying75 Tryz.underlying5 Tryz.underlying9 (Reads.of_own oz)
  obtain ⟨Z, hZ⟩ : ∃ Z, Z = enc m.kd.toNat ++ encMb m := ⟨_, rfl⟩
  rw [← hZ] at a0 t1
  have HZ := Lib.hid (show encM m = Z from hZ.symm)
  clear kz oz ho hZ
  go_wp2_with fail
  go_ret2
  exact ⟨by rw [HZ.out]; rfl, BZ.out⟩
end
def MbPost (x : ByteArray) (n : Int) (w : World) (e : Ending) (w' : World) : Prop := e = .returned (.tuple #[.string x, .int .i64 n]) ∧ Below w.heap.size w w'
noncomputable def bytesM (m : Mt) : ByteArray × Int := if mayM m = true then (bs (encM m), 0) else (ByteArray.empty, 2)
section
attribute [-go_sem] loadCells
set_option maxRecDepth 100000 in
set_option maxHeartbeats 4000000 in
theorem mlBytes_any (m : Mt) (A D : Option Addr) (c e : Nat) (w : World) (hg : HasET w) (h : CoR w w.heap.size m.c A D) :
    Calls Tryz.prog 16 #[.agg (mtX m A D c e)] w (MbPost (bytesM m).1 (bytesM m).2 w) := by
  obtain ⟨W0, hW0⟩ : ∃ W0, W0 = w.alloc (.cells (mtX m A D c e) 42) := ⟨_, rfl⟩
  have B0 : Below w.heap.size w W0 := by rw [hW0]; exact bal (Below.refl _ _) _
  have K0 : Blk W0 w.heap.size 42 (mtX m A D c e) := by rw [hW0]; exact Blk.new w 42 _
  have l0 := mt_load (P := Tryz.prog) K0
  have HB := Lib.hid B0
  have HW := Lib.hid hW0
  have HG := Lib.hid hg
  unfold bytesM
  cases hm : mayM m
  · have MW := Lib.hid (mlwrite_no m A D c e W0 (h.up B0) hm)
    clear hW0 B0 K0 h hm hg
    go_enter Tryz.func16, Tryz.ntmps16
    go_upto_region 1 with (fail)
    rw [← HW.out]
    go_wp2_with fail
    refine MW.out.mono ?_
    rintro e w1 ⟨b, rfl, hb, b1⟩
    have B1 := Lib.hid (HB.out.trans (b1.mono HB.out.size))
    have MC := Lib.hid (mlcode_fault b 2 w1 (HG.out.up B1.out) hb)
    clear b1 l0 hb
    go_wp2_with fail
    refine MC.out.mono ?_
    rintro e w2 ⟨rfl, b2⟩
    have B2 := Lib.hid (B1.out.trans (b2.mono B1.out.size))
    clear b2
    go_wp2_with fail
    go_ret2
    exact ⟨rfl, B2.out⟩
  · have MW := Lib.hid (mlwrite_ok m A D c e W0 (h.up B0) hm)
    clear hW0 B0 K0 h hm hg
    generalize bs (encM m) = Z at *
    go_enter Tryz.func16, Tryz.ntmps16
    go_upto_region 1 with (fail)
    rw [← HW.out]
    go_wp2_with fail
    refine MW.out.mono ?_
    rintro e w1 ⟨rfl, b1⟩
    have B1 := Lib.hid (HB.out.trans (b1.mono HB.out.size))
    have MC := Lib.hid (mlcode_nil w1)
    clear b1 l0
    go_wp2_with fail
    refine MC.out.mono ?_
    rintro e w2 ⟨rfl, b2⟩
    have B2 := Lib.hid (B1.out.trans (b2.mono B1.out.size))
    clear b2
    go_wp2_with fail
    go_ret2
    exact ⟨rfl, B2.out⟩
end
end Go.Proofs.YtbpkckahonmpkaaGreatDoor
