/-
  Layer 19: metalog.Read.
  Layer 19: metalog.code, write, Bytes.
  Layer 19: metalog.read, Read.
-/
import Derived.Test.YtbpkckahonmpkaaGreatDoorMlReadsProofP13
import Derived.Deep.RegionHeld3
set_option linter.unusedVariables false
set_option linter.unusedSimpArgs false
namespace Go.Proofs.YtbpkckahonmpkaaGreatDoor
open Go.RowKit
set_option maxHeartbeats 1000000 in
theorem mlcode_nil (w : World) : Calls Tryz.prog 40 #[.nilIface] w fun e w' => e = .returned (.int .i64 0) ∧ Below w.heap.size w w' := by
  have HB := Lib.hid (fun x => bal (Below.refl w.heap.size w) x)
  go_enter Tryz.func40, Tryz.ntmps40
  go_wp2_with fail
  go_ret
  exact ⟨rfl, HB.out _⟩
set_option maxHeartbeats 1000000 in
theorem mlcode_fault (b : Nat) (n : Int) (w : World) (hg : HasET w) (hb1 : w.cell? ⟨b, 1, none⟩ = some (.int .i64 n)) :
    Calls Tryz.prog 40 #[.iface 102 (.pointer (some ⟨b, 0, none⟩))] w fun e w' => e = .returned (.int .i64 n) ∧ Below w.heap.size w w' := by
  have hg1 : HasET (w.alloc (.cells #[.int .i64 0] 35)) := hg.up (bal (Below.refl _ _) _)
  have hb2 := (World.cell?_alloc_lt w (.cells #[.int .i64 0] 35) ⟨b, 1, none⟩ (cell_lt hb1)).trans hb1
  have HIS := Lib.hid (ErMl.is_any b n 70 (w.alloc (.cells #[.int .i64 0] 35)) hb2)
  have HAS := Lib.hid (ErMl.as_any b w.heap.size n (.int .i64 0) (w.alloc (.cells #[.int .i64 0] 35)) hg1 hb2 (by simp) (by simp))
  have HB := Lib.hid (fun x => bal (Below.refl w.heap.size w) x)
  have HC := Lib.hid (asW_cell w n)
  have HAB := Lib.hid (asW_below w n)
  clear hg1 hb2 hb1 hg
  by_cases h2 : n = 70
  · subst h2
    go_enter Tryz.func40, Tryz.ntmps40
    go_wp2_with (go_at_call 69; refine HIS.out.mono ?_; rintro e w1 ⟨rfl, rfl⟩)
    go_ret
    exact ⟨rfl, HB.out _⟩
  · have d2 : (n == 70) = false := eqb_false h2
    go_enter Tryz.func40, Tryz.ntmps40
    go_wp2_with (first | (go_at_call 69; refine HIS.out.mono ?_; rintro e w1 ⟨rfl, rfl⟩) | (go_at_call 70; refine HAS.out.mono ?_; rintro e w1 ⟨rfl, hw1⟩; have hc1 : w1.cell? ⟨w.heap.size, 0, none⟩ = some (.int .i64 n) := (by rw [← hw1]; exact HC.out); have HW1 := Lib.hid hw1; clear hw1))
    go_ret
    exact ⟨rfl, by rw [← HW1.out]; exact HAB.out⟩
/-- What write hands back where the entry may not be. -/
def MwNo (n : Int) (v : Value) (w : World) (e : Ending) (w' : World) : Prop :=
  ∃ b, e = .returned (.tuple #[v, .iface 102 (.pointer (some ⟨b, 0, none⟩))]) ∧ w'.cell? ⟨b, 1, none⟩ = some (.int .i64 n) ∧ Below w.heap.size w w'
section
attribute [-go_sem] loadCells
set_option maxRecDepth 100000 in
set_option maxHeartbeats 4000000 in
theorem mlwrite_no (m : Mt) (A D : Option Addr) (c e : Nat) (w : World) (h : CoR w w.heap.size m.c A D) (hm : mayM m = false) :
    Calls Tryz.prog 39 #[.agg (mtX m A D c e)] w (MwNo 2 (.string ByteArray.empty) w) := by
  obtain ⟨W0, hW0⟩ : ∃ W0, W0 = w.alloc (.cells (mtX m A D c e) 42) := ⟨_, rfl⟩
  have B0 : Below w.heap.size w W0 := by rw [hW0]; exact bal (Below.refl _ _) _
  have K0 : Blk W0 w.heap.size 42 (mtX m A D c e) := by rw [hW0]; exact Blk.new w 42 _
  have l0 := mt_load (P := Tryz.prog) K0
  have MY := Lib.hid (mMay_all m A D c e W0.heap.size W0 (h.up B0) (Nat.le_refl _))
  rw [hm] at MY
  have HB := Lib.hid B0
  have HW := Lib.hid hW0
  clear hW0 B0 K0 h hm
  go_enter Tryz.func39, Tryz.ntmps39
  go_upto_region 1 with (fail)
  rw [← HW.out]
  go_wp2_with fail
  refine MY.out.mono ?_
  rintro e w1 ⟨rfl, b1⟩
  have B1 := Lib.hid (HB.out.trans (b1.mono HB.out.size))
  clear b1 l0
  go_wp2_with fail
  go_ret2
  exact ⟨_, rfl, by simp, bal B1.out _⟩
set_option maxRecDepth 100000 in
set_option maxHeartbeats 4000000 in
theorem mlwrite_ok (m : Mt) (A D : Option Addr) (c e : Nat) (w : World) (h : CoR w w.heap.size m.c A D) (hm : mayM m = true) :
    Calls Tryz.prog 39 #[.agg (mtX m A D c e)] w fun e w' => e = .returned (.tuple #[.string (bs (encM m)), .nilIface]) ∧ Below w.heap.size w w' := by
  obtain ⟨W0, hW0⟩ : ∃ W0, W0 = w.alloc (.cells (mtX m A D c e) 42) := ⟨_, rfl⟩
  have s0 : W0.heap.size = w.heap.size + 1 := by rw [hW0]; simp
  have B0 : Below w.heap.size w W0 := by rw [hW0]; exact bal (Below.refl _ _) _
  have K0 : Blk W0 w.heap.size 42 (mtX m A D c e) := by rw [hW0]; exact Blk.new w 42 _
  have l0 := mt_load (P := Tryz.prog) K0
  have MY := Lib.hid (mMay_all m A D c e W0.heap.size W0 (h.up B0) (Nat.le_refl _))
  rw [hm] at MY
  have hkd : 0 ≤ m.kd ∧ m.kd ≤ 7 := (cI_v 0 7 m.kd (by decide)).1 (cMt_v (K := 7) (S := 6) (by decide) (by decide) (by decide) (by decide) hm).2.1
  have wc : IntKind.i64.wrap m.kd = m.kd := IntWalk.i64_in _ (by omega)
  have HB := Lib.hid B0
  have HK := Lib.hid K0
  have HW := Lib.hid hW0
  have HS := Lib.hid s0
  have HKD := Lib.hid hkd
  have HM := Lib.hid hm
  have HD := Lib.hid h.2.1
  clear hW0 B0 K0 h hm hkd s0
  go_enter Tryz.func39, Tryz.ntmps39
  go_upto_region 1 with (fail)
  rw [← HW.out]
  go_wp2_with fail
  refine MY.out.mono ?_
  rintro e w1 ⟨rfl, b1⟩
  have B1 := Lib.hid (HB.out.trans (b1.mono HB.out.size))
  have KE1 := Lib.hid (HK.out.below b1 HK.out.lt)
  have lt1 : w.heap.size < w1.heap.size := by have := HS.out; have := b1.size; omega
  have LT1 := Lib.hid lt1
  have x0 : (w1.alloc (.cells #[.slice none 0 0, .int .i64 0] 107)).cell? ⟨w.heap.size, 0, none⟩ = some (.int .i8 m.kd) := mt_cell (KE1.out.alloc _) (j := 0) rfl
  obtain ⟨W2, hW2⟩ : ∃ W2, W2 = (w1.alloc (.cells #[.slice none 0 0, .int .i64 0] 107)).alloc (.cells #[.int .i64 m.kd] 3) := ⟨_, rfl⟩
  have KE2 := Lib.hid (show Blk W2 w.heap.size 42 (mtX m A D c e) by rw [hW2]; exact (KE1.out.alloc _).alloc _)
  have s2 : W2.heap.size = w1.heap.size + 1 + 1 := by rw [hW2]; simp
  have B2 := Lib.hid (show Below w.heap.size w W2 by rw [hW2]; exact bal (bal B1.out _) _)
  have HS2 := Lib.hid (show WmS w1.heap.size W2.heap.size [] W2 from ⟨none, 0, by rw [hW2]; exact (Blk.new w1 107 #[.slice none 0 0, .int .i64 0]).alloc _, World.ownsRow_nil _ _ _ _, by omega, Nat.le_refl _⟩)
  have KN := Lib.hid (show Blk W2 (w1.heap.size + 1) 3 #[.int .i64 m.kd] by rw [hW2]; exact bk_new _ 3 _ (by simp))
  have nm := wmnum w1.heap.size W2.heap.size [] (w1.heap.size + 1) 0 m.kd 0 7 W2 HS2.out (KN.out.cell 0) (by have := HKD.out; omega) (by have := HKD.out; omega) (by simp)
  have S2 := Lib.hid s2
  rw [List.nil_append] at nm
  have HW2 := Lib.hid hW2
  have NM := Lib.hid (show Calls Tryz.prog 67 #[.pointer (some ⟨w1.heap.size, 0, none⟩), .pointer (some ⟨w1.heap.size + 1, 0, none⟩), .int .i64 0, .int .i64 7] ((w1.alloc (.cells #[.slice none 0 0, .int .i64 0] 107)).alloc (.cells #[.int .i64 m.kd] 3)) (WmOk w1.heap.size W2.heap.size (enc m.kd.toNat) W2) from by rw [← HW2.out]; exact nm)
  clear hW2 b1 lt1 s2 nm l0
  go_wp2_with fail
  refine NM.out.mono ?_
  rintro e w3 ⟨rfl, hs, ho⟩
  have KE3 := Lib.hid (ho.blk KE2.out (by have := LT1.out; omega))
  have NA := Lib.hid (wmall w1.heap.size W2.heap.size (enc m.kd.toNat) w.heap.size w.heap.size m A D c e w3 hs KE3.out (by have := LT1.out; omega) (((HD.out.below B2.out)) |> fun k => ho.reads k (by have := B2.out.size; omega) (fun x hx e => by have := LT1.out; omega)) ⟨by have := LT1.out; omega, Nat.le_refl _, by have := LT1.out; have := S2.out; omega, by have := B2.out.size; have := ho.size; omega⟩ HM.out (by have := enc_bt (n := m.kd) (by have := HKD.out; omega); omega))
  have HO3 := Lib.hid ho
  clear hs ho x0
  go_wp2_with fail
  refine NA.out.mono ?_
  rintro e w4 ⟨rfl, ⟨AZ, cZ, kz, oz, _, _⟩, _, ho⟩
  have BZ := Lib.hid (show Below w.heap.size w w4 from B2.out.trans (((HO3.out.mono (S' := fun x => x = w1.heap.size ∨ x = w.heap.size) (fun _ _ h => .inl h)).trans ho).below (B := w.heap.size) B2.out.size (fun y hy => by have := LT1.out; omega)))
  have a0 := kz.cell 0
  have a1 := kz.cell 1
  have t1 := run_string_of (P := Tryz.prog) (src := 75) (dst := 9) (c := cZ) Tryz.underlying75 Tryz.underlying5 Tryz.underlying9 (Reads.of_own oz)
  obtain ⟨Z, hZ⟩ : ∃ Z, Z = enc m.kd.toNat ++ encMb m := ⟨_, rfl⟩
  rw [← hZ] at a0 t1
  have HZ := Lib.hid (show encM m = Z from hZ.symm)
  clear kz oz ho hZ
  go_wp2_with fail
  go_ret2
  exact ⟨by rw [HZ.out]; rfl, BZ.out⟩
end
def MbPost (x : ByteArray) (n : Int) (w : World) (e : Ending) (w' : World) : Prop := e = .returned (.tuple #[.string x, .int .i64 n]) ∧ Below w.heap.size w w'
noncomputable def bytesM (m : Mt) : ByteArray × Int := if mayM m = true then (bs (encM m), 0) else (ByteArray.empty, 2)
section
attribute [-go_sem] loadCells
set_option maxRecDepth 100000 in
set_option maxHeartbeats 4000000 in
theorem mlBytes_any (m : Mt) (A D : Option Addr) (c e : Nat) (w : World) (hg : HasET w) (h : CoR w w.heap.size m.c A D) :
    Calls Tryz.prog 16 #[.agg (mtX m A D c e)] w (MbPost (bytesM m).1 (bytesM m).2 w) := by
  obtain ⟨W0, hW0⟩ : ∃ W0, W0 = w.alloc (.cells (mtX m A D c e) 42) := ⟨_, rfl⟩
  have B0 : Below w.heap.size w W0 := by rw [hW0]; exact bal (Below.refl _ _) _
  have K0 : Blk W0 w.heap.size 42 (mtX m A D c e) := by rw [hW0]; exact Blk.new w 42 _
  have l0 := mt_load (P := Tryz.prog) K0
  have HB := Lib.hid B0
  have HW := Lib.hid hW0
  have HG := Lib.hid hg
  unfold bytesM
  cases hm : mayM m
  · have MW := Lib.hid (mlwrite_no m A D c e W0 (h.up B0) hm)
    clear hW0 B0 K0 h hm hg
    go_enter Tryz.func16, Tryz.ntmps16
    go_upto_region 1 with (fail)
    rw [← HW.out]
    go_wp2_with fail
    refine MW.out.mono ?_
    rintro e w1 ⟨b, rfl, hb, b1⟩
    have B1 := Lib.hid (HB.out.trans (b1.mono HB.out.size))
    have MC := Lib.hid (mlcode_fault b 2 w1 (HG.out.up B1.out) hb)
    clear b1 l0 hb
    go_wp2_with fail
    refine MC.out.mono ?_
    rintro e w2 ⟨rfl, b2⟩
    have B2 := Lib.hid (B1.out.trans (b2.mono B1.out.size))
    clear b2
    go_wp2_with fail
    go_ret2
    exact ⟨rfl, B2.out⟩
  · have MW := Lib.hid (mlwrite_ok m A D c e W0 (h.up B0) hm)
    clear hW0 B0 K0 h hm hg
    generalize bs (encM m) = Z at *
    go_enter Tryz.func16, Tryz.ntmps16
    go_upto_region 1 with (fail)
    rw [← HW.out]
    go_wp2_with fail
    refine MW.out.mono ?_
    rintro e w1 ⟨rfl, b1⟩
    have B1 := Lib.hid (HB.out.trans (b1.mono HB.out.size))
    have MC := Lib.hid (mlcode_nil w1)
    clear b1 l0
    go_wp2_with fail
    refine MC.out.mono ?_
    rintro e w2 ⟨rfl, b2⟩
    have B2 := Lib.hid (B1.out.trans (b2.mono B1.out.size))
    clear b2
    go_wp2_with fail
    go_ret2
    exact ⟨rfl, B2.out⟩
end
end Go.Proofs.YtbpkckahonmpkaaGreatDoor
namespace Go.Proofs.YtbpkckahonmpkaaGreatDoor
open Go.RowKit
theorem store_i8U {W : World} {a : Addr} {u : Value} (k : Int) (h : W.cell? a = some u) (hf : W.frozen? a = false) : (storeVar 25 a (.int .i8 k)).run Tryz.prog W = .ok () (W.setCell a (.int .i8 k)) := by
  simp [go_sem, h, hf]
theorem coR_hold {w w' : World} {c : Co} {D : Option Addr} {X : Nat} (h : CoR w w.heap.size c none D) (off : ∀ ad, 0 < c.qs.length → D = some ad → ad.block ≠ X) (fh : ∀ y, y ≠ X → w'.heap[y]? = w.heap[y]?) (fs : w'.heap.size = w.heap.size) : CoR w' w'.heap.size c none D := by
  rw [fs]
  refine ⟨⟨h.1.1, fun hn => ?_⟩, ⟨h.2.1.1, fun hn => ?_⟩, h.2.2⟩
  · obtain ⟨ad, hd, _⟩ := h.1.2 hn
    cases hd
  · obtain ⟨ad, hd, hb, hc⟩ := h.2.1.2 hn
    refine ⟨ad, hd, hb, fun j u hu => ?_⟩
    rw [← hc j u hu]
    exact World.cell?_of_block (by rw [block_of_add]; exact fh _ (off ad hn hd))
theorem int_fresh (w1 : World) (n : Int) : ∃ W', (storeVar 3 ⟨w1.heap.size, 0, none⟩ (.int .i64 n)).run Tryz.prog (w1.alloc (.cells #[.int .i64 0] 3)) = .ok () W' ∧ Blk W' w1.heap.size 3 #[.int .i64 n] ∧ Below w1.heap.size w1 W' ∧ W'.heap.size = w1.heap.size + 1 := by
  have k := Blk.new w1 3 #[.int .i64 0]
  exact ⟨_, store_intS n (k.cell 0) (k.frozen 0), k.set_ 0 (.int .i64 n), (bal (Below.refl _ _) _).setCell (p := ⟨w1.heap.size, 0, none⟩) (Nat.le_refl _) _, by simp [World.setCell]⟩
theorem infoRd : (Tryz.prog.info? 128).map (·.size) = some 1 := by kernel_rfl
theorem rM_ps (S : Nat) (kd : Int) (l : List UInt8) (i : Nat) (b : Bool) : (rM S kd l i b).1.2.2.2.2.2.1.ps = [] := by
  unfold rM
  repeat' split
  all_goals rfl
theorem rdCo_qs (S : Nat) (l : List UInt8) (i : Nat) (b : Bool) : (rdCo S l i b).1.qs.length ≤ 6 := by
  unfold rdCo rdCb
  simp only [rdMap, rdBind, coOf]
  rw [rdRep_len]
  generalize hz : rI 0 6 l _ _ = r
  obtain ⟨v, j, b'⟩ := r
  have h2 := rdNum_rng hz
  simp only
  have : (((6 : Nat) : Int)) = 6 := rfl
  omega
theorem rM_qs (S : Nat) (kd : Int) (l : List UInt8) (i : Nat) (b : Bool) : (rM S kd l i b).1.2.2.2.2.2.1.qs.length ≤ 6 := by
  unfold rM
  repeat' split
  all_goals first | exact rdCo_qs S _ _ _ | exact Nat.zero_le _
section
attribute [-go_sem] loadCells storeVar
theorem mlread_ret (X : Array Value) (v3 : Value) (tmps : Array Value) (b : Nat) (W : World) (h2 : tmps[2]?.getD undef = .pointer (some ⟨b, 0, none⟩)) (h3 : tmps[3]?.getD undef = v3) (hK : Blk W b 42 X) (hX : X.size = 17) :
    (results Tryz.f53 tmps).run Tryz.prog W = .ok (.tuple #[.agg X, v3]) W := by
  have LC := bk_load (P := Tryz.prog) 17 hK hX
  clear hK
  simp [results, Tryz.results53, go_sem, h2, h3, LC]
theorem mlRead_ret (X : Array Value) (v3 : Value) (tmps : Array Value) (b : Nat) (W : World) (h2 : tmps[2]?.getD undef = .pointer (some ⟨b, 0, none⟩)) (h3 : tmps[3]?.getD undef = v3) (hK : Blk W b 42 X) (hX : X.size = 17) :
    (results Tryz.f26 tmps).run Tryz.prog W = .ok (.tuple #[.agg X, v3]) W := by
  have LC := bk_load (P := Tryz.prog) 17 hK hX
  clear hK
  simp [results, Tryz.results26, go_sem, h2, h3, LC]
/-- What read hands back. -/
def MrP (x : Mt) (n : Int) (w : World) (e : Ending) (w' : World) : Prop :=
  (n = 0 ∧ ∃ D e', e = .returned (.tuple #[.agg (mtX x none D 0 e'), .nilIface]) ∧ CoR w' w'.heap.size x.c none D ∧ Below w.heap.size w w' ∧ ∀ ad, 0 < x.c.qs.length → D = some ad → w.heap.size ≤ ad.block) ∨
  (n = 70 ∧ x = MtNil ∧ MwNo 70 (.agg (mtX MtNil none none 0 0)) w e w')
set_option maxRecDepth 100000 in
set_option maxHeartbeats 8000000 in
theorem mlread_any (s : ByteArray) (w : World) (hg : HasET w) (hl : s.size ≤ 100000) :
    Calls Tryz.prog 53 #[.string s] w (MrP (readM 7 6 (lb s)).1 (readM 7 6 (lb s)).2 w) := by
  obtain ⟨kd, j1, b1, hz1⟩ : ∃ v j b, rdNum (lb s) 0 false 0 7 = (v, j, b) := ⟨_, _, _, rfl⟩
  obtain ⟨y, j2, b2, hz2⟩ : ∃ v j b, rM 6 kd (lb s) j1 b1 = (v, j, b) := ⟨_, _, _, rfl⟩
  have hk : 0 ≤ kd ∧ kd ≤ 7 := by rcases rdNum_rng hz1 with h | h <;> omega
  have hR : rdMt 7 6 (lb s) 0 false = (mtOf kd y, j2, b2) := by
    have hy1 : rdNum (lb s) 0 false ((0 : Nat) : Int) ((7 : Nat) : Int) = (kd, j1, b1) := hz1
    simp only [rdMt, rdMap, rdBind, rI, hy1, hz2]
  have hRR : readM 7 6 (lb s) = if b2 = true ∨ j2 ≠ s.size ∨ mayM (mtOf kd y) = false then (MtNil, 70) else (mtOf kd y, 0) := by
    unfold readM
    rw [hR, length_lb]
  have hps : (mtOf kd y).c.ps = [] := by have := rM_ps 6 kd (lb s) j1 b1; rw [hz2] at this; exact this
  have hqs : (mtOf kd y).c.qs.length ≤ 6 := by have := rM_qs 6 kd (lb s) j1 b1; rw [hz2] at this; exact this
  have wc8 : IntKind.i8.wrap kd = kd := IntWalk.i8_in _ (by omega)
  obtain ⟨Wa, hWa⟩ : ∃ Wa, Wa = (w.alloc (.cells #[.int .i8 0, .int .i64 0, .int .i64 0, .int .i64 0, .int .i64 0, .int .i64 0, .bool false, .int .i64 0, .int .i8 0, .int .i64 0, .int .i64 0, .int .i64 0, .int .i64 0, .slice none 0 0, .slice none 0 0, .int .i64 0, .int .i64 0] 42)).alloc (.cells #[.int .i8 0, .int .i64 0, .int .i64 0, .int .i64 0, .int .i64 0, .int .i64 0, .bool false, .int .i64 0, .int .i8 0, .int .i64 0, .int .i64 0, .int .i64 0, .int .i64 0, .slice none 0 0, .slice none 0 0, .int .i64 0, .int .i64 0] 42) := ⟨_, rfl⟩
  have sa : Wa.heap.size = w.heap.size + 1 + 1 := by rw [hWa]; simp
  have Ba : Below w.heap.size w Wa := by rw [hWa]; exact bal (bal (Below.refl _ _) _) _
  have KXa : Blk Wa w.heap.size 42 #[.int .i8 0, .int .i64 0, .int .i64 0, .int .i64 0, .int .i64 0, .int .i64 0, .bool false, .int .i64 0, .int .i8 0, .int .i64 0, .int .i64 0, .int .i64 0, .int .i64 0, .slice none 0 0, .slice none 0 0, .int .i64 0, .int .i64 0] := by rw [hWa]; exact (Blk.new w 42 #[.int .i8 0, .int .i64 0, .int .i64 0, .int .i64 0, .int .i64 0, .int .i64 0, .bool false, .int .i64 0, .int .i8 0, .int .i64 0, .int .i64 0, .int .i64 0, .int .i64 0, .slice none 0 0, .slice none 0 0, .int .i64 0, .int .i64 0]).alloc _
  have KEa : Blk Wa (w.heap.size + 1) 42 #[.int .i8 0, .int .i64 0, .int .i64 0, .int .i64 0, .int .i64 0, .int .i64 0, .bool false, .int .i64 0, .int .i8 0, .int .i64 0, .int .i64 0, .int .i64 0, .int .i64 0, .slice none 0 0, .slice none 0 0, .int .i64 0, .int .i64 0] := by rw [hWa]; exact bk_new _ 42 #[.int .i8 0, .int .i64 0, .int .i64 0, .int .i64 0, .int .i64 0, .int .i64 0, .bool false, .int .i64 0, .int .i8 0, .int .i64 0, .int .i64 0, .int .i64 0, .int .i64 0, .slice none 0 0, .slice none 0 0, .int .i64 0, .int .i64 0] (by simp)
  have NW := Lib.hid (RNew_any s Wa)
  obtain ⟨W3, hW3⟩ : ∃ W3, W3 = Wa.alloc (.cells #[.string s, .int .i64 0, .bool false] 164) := ⟨_, rfl⟩
  have s3 : W3.heap.size = w.heap.size + 1 + 1 + 1 := by rw [hW3]; simp [sa]
  have K3 : Blk W3 (w.heap.size + 1 + 1) 164 #[.string s, .int .i64 0, .bool false] := by rw [hW3]; exact bk_new _ 164 _ sa
  have B3 : Below w.heap.size w W3 := by rw [hW3]; exact bal Ba _
  have hglt := hg.lt
  have R3 : ROk W3 (w.heap.size + 1 + 1) s 0 false := ⟨K3, Nat.zero_le _, hg.up B3, hl, by omega, by omega, Nat.le_refl _⟩
  obtain ⟨W4, st4, k4, b4, s4⟩ := bk_fresh (P := Tryz.prog) W3 128 #[.pointer none] #[.pointer (some ⟨w.heap.size + 1 + 1, 0, none⟩)] 1 infoRd rfl rfl (by simp [Value.oneCell'])
  obtain ⟨W5, st5, k5, b5, s5⟩ := int_fresh W4 0
  have b35 := b4.trans (b5.mono b4.size)
  have R5 := rok_below R3 b35
  have KE5 : Blk W5 (w.heap.size + 1) 42 #[.int .i8 0, .int .i64 0, .int .i64 0, .int .i64 0, .int .i64 0, .int .i64 0, .bool false, .int .i64 0, .int .i8 0, .int .i64 0, .int .i64 0, .int .i64 0, .int .i64 0, .slice none 0 0, .slice none 0 0, .int .i64 0, .int .i64 0] := (show Blk W3 (w.heap.size + 1) 42 #[.int .i8 0, .int .i64 0, .int .i64 0, .int .i64 0, .int .i64 0, .int .i64 0, .bool false, .int .i64 0, .int .i8 0, .int .i64 0, .int .i64 0, .int .i64 0, .int .i64 0, .slice none 0 0, .slice none 0 0, .int .i64 0, .int .i64 0] by rw [hW3]; exact KEa.alloc _).below b35 (by omega)
  have KX5 : Blk W5 w.heap.size 42 #[.int .i8 0, .int .i64 0, .int .i64 0, .int .i64 0, .int .i64 0, .int .i64 0, .bool false, .int .i64 0, .int .i8 0, .int .i64 0, .int .i64 0, .int .i64 0, .int .i64 0, .slice none 0 0, .slice none 0 0, .int .i64 0, .int .i64 0] := (show Blk W3 w.heap.size 42 #[.int .i8 0, .int .i64 0, .int .i64 0, .int .i64 0, .int .i64 0, .int .i64 0, .bool false, .int .i64 0, .int .i8 0, .int .i64 0, .int .i64 0, .int .i64 0, .int .i64 0, .slice none 0 0, .slice none 0 0, .int .i64 0, .int .i64 0] by rw [hW3]; exact KXa.alloc _).below b35 (by omega)
  have KR5 : Blk W5 W3.heap.size 128 #[.pointer (some ⟨w.heap.size + 1 + 1, 0, none⟩)] := k4.below b5 (by omega)
  have l4 := bk_load (P := Tryz.prog) 1 KR5 rfl
  have NN := Lib.hid (rmnum (w.heap.size + 1 + 1) W4.heap.size 0 3 #[.int .i64 0] s 0 j1 false b1 0 7 kd W5 R5 k5 (by decide) (by omega) (by omega) hz1)
  have B5 := Lib.hid (B3.trans (b35.mono B3.size))
  have KX := Lib.hid KX5
  have KE := Lib.hid KE5
  have KR := Lib.hid KR5
  have HS := Lib.hid (show W3.heap.size = w.heap.size + 1 + 1 + 1 ∧ W4.heap.size = w.heap.size + 1 + 1 + 1 + 1 ∧ W5.heap.size = w.heap.size + 1 + 1 + 1 + 1 + 1 ∧ 0 < w.heap.size by omega)
  have HK := Lib.hid hk
  have HZ2 := Lib.hid hz2
  have HRR := Lib.hid hRR
  have HPS := Lib.hid hps
  have HQS := Lib.hid hqs
  have HWA := Lib.hid hWa
  have HW3 := Lib.hid hW3
  have HSA := Lib.hid sa
  clear hWa sa Ba KXa KEa hW3 s3 K3 B3 hglt R3 k4 b4 s4 k5 b5 s5 b35 R5 KE5 KX5 KR5 hg hl hk hz1 hz2 hR hRR hps hqs
  go_enter Tryz.func53, Tryz.ntmps53
  go_upto_region 2 with (fail)
  rw [← HWA.out]
  go_wp2_with (go_at_call 83; refine NW.out.mono ?_; rw [← HW3.out]; rintro e w3 ⟨rfl, rfl⟩; rw [HSA.out])
  refine NN.out.mono ?_
  rintro e w6 ⟨rfl, r6, k6, o6⟩
  have y6 : w6.cell? ⟨W4.heap.size, 0, none⟩ = some (.int .i64 kd) := k6.cell 0
  have ke6 := o6.blk KE.out (by have := HS.out; omega)
  have st7 := store_i8U kd (ke6.cell 0) (ke6.frozen 0)
  have hs := HS.out
  have KE7 := Lib.hid (show Blk (w6.setCell ⟨w.heap.size + 1, 0, none⟩ (.int .i8 kd)) (w.heap.size + 1) 42 (mtX (Mt0 kd) none none 0 0) from ke6.set_ 0 (.int .i8 kd))
  have KR7 := Lib.hid ((o6.blk KR.out (by omega)).far (p := ⟨w.heap.size + 1, 0, none⟩) (by show W3.heap.size ≠ w.heap.size + 1; omega) (.int .i8 kd))
  have KX7 := Lib.hid ((o6.blk KX.out (by omega)).far (p := ⟨w.heap.size + 1, 0, none⟩) (by show w.heap.size ≠ w.heap.size + 1; omega) (.int .i8 kd))
  have R7 := rok_far r6 (p := w.heap.size + 1) (by omega) (by omega) 0 (.int .i8 kd)
  have O7 := Lib.hid ((B5.out.trans (o6.below B5.out.size (fun x hx => by omega))).setCell (p := ⟨w.heap.size + 1, 0, none⟩) (by show w.heap.size ≤ w.heap.size + 1; omega) (.int .i8 kd))
  obtain ⟨W7, hW7⟩ : ∃ W7, W7 = w6.setCell ⟨w.heap.size + 1, 0, none⟩ (.int .i8 kd) := ⟨_, rfl⟩
  rw [← hW7] at st7 KE7 KR7 KX7 R7 O7
  have l7 := bk_load (P := Tryz.prog) 1 KR7.out rfl
  have NA := Lib.hid (rmall (w.heap.size + 1 + 1) (w.heap.size + 1) kd s j1 j2 b1 b2 y W7 R7 KE7.out (by omega) (by omega) HK.out.1 HK.out.2 HZ2.out)
  have HW7 := Lib.hid (show w.heap.size < W7.heap.size from KX7.out.lt)
  clear hW7 r6 k6 o6 ke6 R7 hs
  go_wp2_with fail
  refine NA.out.mono ?_
  rintro e w9 ⟨rfl, r9, ⟨D, e', k9, rd9, of9⟩, o9⟩
  have OF9 := Lib.hid of9
  have hs := HS.out
  have KR9 := Lib.hid (o9.blk KR7.out (by omega))
  have KX9 := Lib.hid (o9.blk KX7.out (by omega))
  have B9 := Lib.hid (O7.out.trans (o9.below O7.out.size (fun x hx => by omega)))
  have K9 := Lib.hid k9
  have RD9 := Lib.hid rd9
  have z0 := KR9.out.cell 0
  have E1 := Lib.hid (REnd_any (w.heap.size + 1 + 1) s j2 b2 w9 r9.1)
  clear r9 k9 rd9 of9 o9 hs l4 l7 st4 st5 st7 y6
  by_cases hE : b2 = true ∨ j2 ≠ s.size
  · have he : endOf s.size j2 b2 = 70 := if_pos hE
    rw [he] at E1
    have hrr : readM 7 6 (lb s) = (MtNil, 70) := by
      rw [HRR.out, if_pos (by rcases hE with h | h; exact .inl h; exact .inr (.inl h))]
    have HR7 := Lib.hid hrr
    clear hE he hrr
    go_wp2_with fail
    refine E1.out.mono ?_
    rintro e w10 ⟨rfl, n, rfl⟩
    clear z0
    obtain ⟨W11, st11, k11, fb11, fh11, fs11⟩ := bk_store (P := Tryz.prog) (ty := 42) (cs := #[.int .i8 0, .int .i64 0, .int .i64 0, .int .i64 0, .int .i64 0, .int .i64 0, .bool false, .int .i64 0, .int .i8 0, .int .i64 0, .int .i64 0, .int .i64 0, .int .i64 0, .slice none 0 0, .slice none 0 0, .int .i64 0, .int .i64 0]) 17 ((KX9.out.drewN n).alloc (.cells #[.string ⟨#[98, 121, 116, 101, 115, 32, 111, 102, 32, 110, 111, 32, 101, 110, 116, 114, 121]⟩, .int .i64 70] 104)) infoMt rfl rfl (by simp [Value.oneCell'])
    have hfa : W11.cell? ⟨(w9.drewN n).heap.size, 1, none⟩ = some (.int .i64 70) := by
      have kf := Blk.new (w9.drewN n) 104 #[.string ⟨#[98, 121, 116, 101, 115, 32, 111, 102, 32, 110, 111, 32, 101, 110, 116, 114, 121]⟩, .int .i64 70]
      have kf2 : Blk W11 (w9.drewN n).heap.size 104 #[.string ⟨#[98, 121, 116, 101, 115, 32, 111, 102, 32, 110, 111, 32, 101, 110, 116, 114, 121]⟩, .int .i64 70] := (fh11 _ (by have := KX9.out.lt; show w9.heap.size ≠ w.heap.size; omega)).trans kf
      exact kf2.cell 1
    have BF := Lib.hid (fb11 _ w (Nat.le_refl _) (bal (below_drewN B9.out n) _))
    have KF := Lib.hid k11
    have HF := Lib.hid hfa
    clear k11 fb11 fh11 fs11 hfa
    go_wp2_with fail
    refine bodyPost_ret (v := .tuple #[.agg #[.int .i8 0, .int .i64 0, .int .i64 0, .int .i64 0, .int .i64 0, .int .i64 0, .bool false, .int .i64 0, .int .i8 0, .int .i64 0, .int .i64 0, .int .i64 0, .int .i64 0, .slice none 0 0, .slice none 0 0, .int .i64 0, .int .i64 0], .iface 102 (.pointer (some ⟨w9.heap.size, 0, none⟩))]) (mlread_ret #[.int .i8 0, .int .i64 0, .int .i64 0, .int .i64 0, .int .i64 0, .int .i64 0, .bool false, .int .i64 0, .int .i8 0, .int .i64 0, .int .i64 0, .int .i64 0, .int .i64 0, .slice none 0 0, .slice none 0 0, .int .i64 0, .int .i64 0] _ _ w.heap.size _ rfl rfl KF.out rfl) rfl ?_
    rw [HR7.out]
    exact .inr ⟨rfl, rfl, _, rfl, HF.out, BF.out⟩
  · have he : endOf s.size j2 b2 = 0 := if_neg hE
    rw [he] at E1
    have HE := Lib.hid hE
    clear hE he
    go_wp2_with fail
    refine E1.out.mono ?_
    rintro e w10 ⟨rfl, n, rfl⟩
    have bn : Below w9.heap.size w9 (w9.drewN n) := below_drewN (Below.refl _ _) n
    have K10 := Lib.hid (K9.out.drewN n)
    have l10 := mt_load (P := Tryz.prog) K10.out
    have hcr : CoR (w9.drewN n) (w9.drewN n).heap.size (mtOf kd y).c none D := ⟨by rw [HPS.out]; exact Reads.none_, (RD9.out.below bn).more bn.size, by rw [HPS.out]; exact Nat.zero_le _, by have := HQS.out; omega⟩
    have HCR := Lib.hid hcr
    have MY := Lib.hid (mMay_all (mtOf kd y) none D 0 e' (w9.drewN n).heap.size (w9.drewN n) hcr (Nat.le_refl _))
    have B10 := Lib.hid (below_drewN B9.out n)
    have KX10 := Lib.hid (KX9.out.drewN n)
    obtain ⟨W10, hW10⟩ : ∃ W10, W10 = w9.drewN n := ⟨_, rfl⟩
    rw [← hW10] at K10 l10 HCR MY B10 KX10 ⊢
    have HLT := Lib.hid (show w.heap.size < w9.heap.size ∧ w9.heap.size ≤ W10.heap.size from ⟨KX9.out.lt, by rw [hW10]; exact bn.size⟩)
    clear z0 hcr hW10 bn
    cases hmy : mayM (mtOf kd y)
    · rw [hmy] at MY
      have hrr : readM 7 6 (lb s) = (MtNil, 70) := by rw [HRR.out, if_pos (.inr (.inr hmy))]
      have HR7 := Lib.hid hrr
      clear hrr hmy
      go_wp2_with fail
      refine MY.out.mono ?_
      rintro e w11 ⟨rfl, b11⟩
      have KX11 := KX10.out.below b11 KX10.out.lt
      obtain ⟨W12, st12, k12, fb12, fh12, fs12⟩ := bk_store (P := Tryz.prog) (ty := 42) (cs := #[.int .i8 0, .int .i64 0, .int .i64 0, .int .i64 0, .int .i64 0, .int .i64 0, .bool false, .int .i64 0, .int .i8 0, .int .i64 0, .int .i64 0, .int .i64 0, .int .i64 0, .slice none 0 0, .slice none 0 0, .int .i64 0, .int .i64 0]) 17 (KX11.alloc (.cells #[.string ⟨#[98, 121, 116, 101, 115, 32, 111, 102, 32, 110, 111, 32, 101, 110, 116, 114, 121]⟩, .int .i64 70] 104)) infoMt rfl rfl (by simp [Value.oneCell'])
      have hfa : W12.cell? ⟨w11.heap.size, 1, none⟩ = some (.int .i64 70) := by
        have kf := Blk.new w11 104 #[.string ⟨#[98, 121, 116, 101, 115, 32, 111, 102, 32, 110, 111, 32, 101, 110, 116, 114, 121]⟩, .int .i64 70]
        have kf2 : Blk W12 w11.heap.size 104 #[.string ⟨#[98, 121, 116, 101, 115, 32, 111, 102, 32, 110, 111, 32, 101, 110, 116, 114, 121]⟩, .int .i64 70] := (fh12 _ (by have := KX11.lt; omega)).trans kf
        exact kf2.cell 1
      have BF := Lib.hid (fb12 _ w (Nat.le_refl _) (bal (B10.out.trans (b11.mono B10.out.size)) _))
      have KF := Lib.hid k12
      have HF := Lib.hid hfa
      clear k12 fb12 fh12 fs12 hfa l10 b11 KX11
      go_wp2_with fail
      refine bodyPost_ret (v := .tuple #[.agg #[.int .i8 0, .int .i64 0, .int .i64 0, .int .i64 0, .int .i64 0, .int .i64 0, .bool false, .int .i64 0, .int .i8 0, .int .i64 0, .int .i64 0, .int .i64 0, .int .i64 0, .slice none 0 0, .slice none 0 0, .int .i64 0, .int .i64 0], .iface 102 (.pointer (some ⟨w11.heap.size, 0, none⟩))]) (mlread_ret #[.int .i8 0, .int .i64 0, .int .i64 0, .int .i64 0, .int .i64 0, .int .i64 0, .bool false, .int .i64 0, .int .i8 0, .int .i64 0, .int .i64 0, .int .i64 0, .int .i64 0, .slice none 0 0, .slice none 0 0, .int .i64 0, .int .i64 0] _ _ w.heap.size _ rfl rfl KF.out rfl) rfl ?_
      rw [HR7.out]
      exact .inr ⟨rfl, rfl, _, rfl, HF.out, BF.out⟩
    · rw [hmy] at MY
      have hrr : readM 7 6 (lb s) = (mtOf kd y, 0) := by
        rw [HRR.out, if_neg]
        rintro (h | h | h)
        · exact HE.out (.inl h)
        · exact HE.out (.inr h)
        · rw [hmy] at h; cases h
      have HR7 := Lib.hid hrr
      clear hrr hmy
      go_wp2_with fail
      refine MY.out.mono ?_
      rintro e w11 ⟨rfl, b11⟩
      have l11 := mt_load (P := Tryz.prog) (K10.out.below b11 K10.out.lt)
      obtain ⟨W12, st12, k12, fb12, fh12, fs12⟩ := bk_store (P := Tryz.prog) (ty := 42) (cs := mtX (mtOf kd y) none D 0 e') 17 (KX10.out.below b11 KX10.out.lt) infoMt rfl (mtX_size ..) (mtX_one ..)
      have BF := Lib.hid (fb12 _ w (Nat.le_refl _) (B10.out.trans (b11.mono B10.out.size)))
      have KF := Lib.hid k12
      have HC2 := Lib.hid (coR_hold (HCR.out.up b11) (fun ad h0 hd => by have := OF9.out ad h0 hd; have := HW7.out; omega) fh12 fs12)
      clear k12 fb12 fh12 fs12 l10 b11
      go_wp2_with fail
      refine bodyPost_ret (v := .tuple #[.agg (mtX (mtOf kd y) none D 0 e'), .nilIface]) (mlread_ret (mtX (mtOf kd y) none D 0 e') _ _ w.heap.size _ rfl rfl KF.out (mtX_size ..)) rfl ?_
      rw [HR7.out]
      exact .inl ⟨rfl, D, e', rfl, HC2.out, BF.out, fun ad h0 hd => by have := OF9.out ad h0 hd; have := HW7.out; omega⟩
end
end Go.Proofs.YtbpkckahonmpkaaGreatDoor
namespace Go.Proofs.YtbpkckahonmpkaaGreatDoor
open Go.RowKit
def RdP (x : Mt) (n : Int) (w : World) (e : Ending) (w' : World) : Prop := ∃ D e', e = .returned (.tuple #[.agg (mtX x none D 0 e'), .int .i64 n]) ∧ CoR w' w'.heap.size x.c none D ∧ Below w.heap.size w w'
theorem MrP.one {x : Mt} {n : Int} {w w' : World} {e : Ending} (h : MrP x n w e w') (hg : HasET w) : ∃ v D e', e = .returned (.tuple #[.agg (mtX x none D 0 e'), v]) ∧ CoR w' w'.heap.size x.c none D ∧ Below w.heap.size w w' ∧ (∀ ad, 0 < x.c.qs.length → D = some ad → w.heap.size ≤ ad.block) ∧ ∀ W, Below w'.heap.size w' W → Calls Tryz.prog 40 #[v] W fun e W' => e = .returned (.int .i64 n) ∧ Below W.heap.size W W' := by
  rcases h with ⟨rfl, D, e', h1, h2, h3, h4⟩ | ⟨rfl, rfl, b, h1, h2, h3⟩
  · exact ⟨_, D, e', h1, h2, h3, h4, fun W _ => mlcode_nil W⟩
  · exact ⟨_, none, 0, h1, co0_R _ _, h3, fun _ _ hd => (by cases hd), fun W hW => mlcode_fault b 70 W (hg.up (h3.trans (hW.mono h3.size))) ((hW.cell (p := ⟨b, 1, none⟩) (cell_lt h2)).trans h2)⟩
section
attribute [-go_sem] loadCells storeVar
set_option maxRecDepth 100000 in
set_option maxHeartbeats 4000000 in
theorem mlRead_any (s : ByteArray) (w : World) (hg : HasET w) (hl : s.size ≤ 100000) :
    Calls Tryz.prog 26 #[.string s] w (RdP (readM 7 6 (lb s)).1 (readM 7 6 (lb s)).2 w) := by
  generalize hx : (readM 7 6 (lb s)).1 = x
  generalize hn : (readM 7 6 (lb s)).2 = n
  obtain ⟨W0, hW0⟩ : ∃ W0, W0 = w.alloc (.cells #[.int .i8 0, .int .i64 0, .int .i64 0, .int .i64 0, .int .i64 0, .int .i64 0, .bool false, .int .i64 0, .int .i8 0, .int .i64 0, .int .i64 0, .int .i64 0, .int .i64 0, .slice none 0 0, .slice none 0 0, .int .i64 0, .int .i64 0] 42) := ⟨_, rfl⟩
  have B0 : Below w.heap.size w W0 := by rw [hW0]; exact bal (Below.refl _ _) _
  have K0 : Blk W0 w.heap.size 42 #[.int .i8 0, .int .i64 0, .int .i64 0, .int .i64 0, .int .i64 0, .int .i64 0, .bool false, .int .i64 0, .int .i8 0, .int .i64 0, .int .i64 0, .int .i64 0, .int .i64 0, .slice none 0 0, .slice none 0 0, .int .i64 0, .int .i64 0] := by rw [hW0]; exact Blk.new w 42 _
  have RA := mlread_any s W0 (hg.up B0) hl
  rw [hx, hn] at RA
  have RA := Lib.hid RA
  have HG := Lib.hid (hg.up B0)
  have HB := Lib.hid B0
  have HK := Lib.hid K0
  have HW := Lib.hid hW0
  clear hW0 B0 K0 hg hl hx hn
  go_enter Tryz.func26, Tryz.ntmps26
  go_upto_region 1 with (fail)
  rw [← HW.out]
  go_wp2_with fail
  refine RA.out.mono ?_
  intro e w1 hr
  obtain ⟨v, D, e', rfl, hc1, b1, hoff, hcode⟩ := hr.one HG.out
  obtain ⟨W2, st2, k2, b2, s2⟩ := bk_fresh (P := Tryz.prog) w1 42 #[.int .i8 0, .int .i64 0, .int .i64 0, .int .i64 0, .int .i64 0, .int .i64 0, .bool false, .int .i64 0, .int .i8 0, .int .i64 0, .int .i64 0, .int .i64 0, .int .i64 0, .slice none 0 0, .slice none 0 0, .int .i64 0, .int .i64 0] (mtX x none D 0 e') 17 infoMt rfl (mtX_size ..) (mtX_one ..)
  have HC := Lib.hid (hc1.up b2)
  have B2 := Lib.hid (HB.out.trans ((b1.trans (b2.mono b1.size)).mono HB.out.size))
  have K2 := Lib.hid k2.drew
  have KX := Lib.hid (((HK.out.below b1 HK.out.lt).below b2 (by have := HK.out.lt; have := b1.size; omega)).drew)
  have hne : ¬ w1.heap.size = w.heap.size := by have := HK.out.lt; have := b1.size; omega
  have HNE := Lib.hid hne
  have HOFF := Lib.hid (show ∀ ad, 0 < x.c.qs.length → D = some ad → ad.block ≠ w.heap.size from fun ad h0 hd => by have := hoff ad h0 hd; have := HK.out.lt; omega)
  have MC := Lib.hid (hcode W2.drew (b2.trans (Below.refl _ _).drew))
  have l2 := mt_load (P := Tryz.prog) K2.out
  clear hr hc1 b1 hoff hcode k2 b2 s2 hne
  go_wp2_with fail
  go_region_held3 (fun W => (loadCells ⟨w1.heap.size, 0, none⟩ 17).run Tryz.prog W = .ok (mtX x none D 0 e') W)
    (first | exact l2 | exact l3 | exact l4)
    (first | (go_at_call 40; refine MC.out.mono ?_; rintro e w3 ⟨rfl, b3⟩; have k3 := K2.out.below b3 K2.out.lt; have l3 := mt_load (P := Tryz.prog) k3; obtain ⟨W4, st4, k4, fb4, fh4, fs4⟩ := bk_store (P := Tryz.prog) (ty := 42) (cs := mtX x none D 0 e') 17 (KX.out.below b3 KX.out.lt) infoMt rfl (mtX_size ..) (mtX_one ..); have l4 := mt_load (P := Tryz.prog) ((fh4 _ HNE.out).trans k3); have K4 := Lib.hid k4; have BF := Lib.hid (fb4 _ w (Nat.le_refl _) (B2.out.drew.trans (b3.mono B2.out.drew.size))); have HC2 := Lib.hid (coR_hold (HC.out.up ((Below.refl _ _).drew.trans (b3.mono (Nat.le_refl _)))) HOFF.out fh4 fs4); clear k3 k4 fb4 fh4 fs4 b3))
  all_goals
    go_wp2_with fail
    refine bodyPost_ret (v := .tuple #[.agg (mtX x none D 0 e'), .int .i64 n]) (mlRead_ret (mtX x none D 0 e') _ _ w.heap.size _ rfl rfl K4.out (mtX_size ..)) rfl ?_
    exact ⟨D, e', rfl, HC2.out, BF.out⟩
end
end Go.Proofs.YtbpkckahonmpkaaGreatDoor
