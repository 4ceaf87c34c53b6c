/-
  Layer 2, reading: the reader's Text.
  Layer 19: metalog.code, write, Bytes.
  Which transactional id is too great.
  Layer 19: rows of entries in memory; which entry is too great.
  Layer 2, reading: the bytes ahead of a reader, a number read there, or a stop.
  Layer 2, reading: what a reader's deferred closure does: it recovers a stop, and stops the reader where it was.
  Layer 2, reading: field lets one read; what it hands back, where the reader is.
  errors.As and errors.Is at an error of type fields.stop, which wraps its code.
  Layer 2, reading: the reader's Number.
-/
import Derived.Test.YtbpkckahonmpkaaGreatDoorMlFramesProofP08
import Derived.Defers
import Derived.Recover
import Derived.Laws.Pointers
set_option linter.unusedVariables false
set_option linter.unusedSimpArgs false
namespace Go.Proofs.YtbpkckahonmpkaaGreatDoor
open Go.RowKit
set_option maxHeartbeats 1000000 in
theorem mlcode_nil (w : World) : Calls Tryz.prog 40 #[.nilIface] w fun e w' => e = .returned (.int .i64 0) ∧ Below w.heap.size w w' := by
  have HB := Lib.hid (fun x => bal (Below.refl w.heap.size w) x)
  go_enter Tryz.func40, Tryz.ntmps40
  go_wp2_with fail
  go_ret
  exact ⟨rfl, HB.out _⟩
set_option maxHeartbeats 1000000 in
theorem mlcode_fault (b : Nat) (n : Int) (w : World) (hg : HasET w) (hb1 : w.cell? ⟨b, 1, none⟩ = some (.int .i64 n)) :
    Calls Tryz.prog 40 #[.iface 102 (.pointer (some ⟨b, 0, none⟩))] w fun e w' => e = .returned (.int .i64 n) ∧ Below w.heap.size w w' := by
  have hg1 : HasET (w.alloc (.cells #[.int .i64 0] 35)) := hg.up (bal (Below.refl _ _) _)
  have hb2 := (World.cell?_alloc_lt w (.cells #[.int .i64 0] 35) ⟨b, 1, none⟩ (cell_lt hb1)).trans hb1
  have HIS := Lib.hid (ErMl.is_any b n 70 (w.alloc (.cells #[.int .i64 0] 35)) hb2)
  have HAS := Lib.hid (ErMl.as_any b w.heap.size n (.int .i64 0) (w.alloc (.cells #[.int .i64 0] 35)) hg1 hb2 (by simp) (by simp))
  have HB := Lib.hid (fun x => bal (Below.refl w.heap.size w) x)
  have HC := Lib.hid (asW_cell w n)
  have HAB := Lib.hid (asW_below w n)
  clear hg1 hb2 hb1 hg
  by_cases h2 : n = 70
  · subst h2
    go_enter Tryz.func40, Tryz.ntmps40
    go_wp2_with (go_at_call 69; refine HIS.out.mono ?_; rintro e w1 ⟨rfl, rfl⟩)
    go_ret
    exact ⟨rfl, HB.out _⟩
  · have d2 : (n == 70) = false := eqb_false h2
    go_enter Tryz.func40, Tryz.ntmps40
    go_wp2_with (first | (go_at_call 69; refine HIS.out.mono ?_; rintro e w1 ⟨rfl, rfl⟩) | (go_at_call 70; refine HAS.out.mono ?_; rintro e w1 ⟨rfl, hw1⟩; have hc1 : w1.cell? ⟨w.heap.size, 0, none⟩ = some (.int .i64 n) := (by rw [← hw1]; exact HC.out); have HW1 := Lib.hid hw1; clear hw1))
    go_ret
    exact ⟨rfl, by rw [← HW1.out]; exact HAB.out⟩
/-- What write hands back where the entry may not be. -/
def MwNo (n : Int) (v : Value) (w : World) (e : Ending) (w' : World) : Prop :=
  ∃ b, e = .returned (.tuple #[v, .iface 102 (.pointer (some ⟨b, 0, none⟩))]) ∧ w'.cell? ⟨b, 1, none⟩ = some (.int .i64 n) ∧ Below w.heap.size w w'
section
attribute [-go_sem] loadCells
set_option maxRecDepth 100000 in
set_option maxHeartbeats 4000000 in
theorem mlwrite_no (m : Mt) (A D : Option Addr) (c e : Nat) (w : World) (h : CoR w w.heap.size m.c A D) (hm : mayM m = false) :
    Calls Tryz.prog 39 #[.agg (mtX m A D c e)] w (MwNo 2 (.string ByteArray.empty) w) := by
  obtain ⟨W0, hW0⟩ : ∃ W0, W0 = w.alloc (.cells (mtX m A D c e) 42) := ⟨_, rfl⟩
  have B0 : Below w.heap.size w W0 := by rw [hW0]; exact bal (Below.refl _ _) _
  have K0 : Blk W0 w.heap.size 42 (mtX m A D c e) := by rw [hW0]; exact Blk.new w 42 _
  have l0 := mt_load (P := Tryz.prog) K0
  have MY := Lib.hid (mMay_all m A D c e W0.heap.size W0 (h.up B0) (Nat.le_refl _))
  rw [hm] at MY
  have HB := Lib.hid B0
  have HW := Lib.hid hW0
  clear hW0 B0 K0 h hm
  go_enter Tryz.func39, Tryz.ntmps39
  go_upto_region 1 with (fail)
  rw [← HW.out]
  go_wp2_with fail
  refine MY.out.mono ?_
  rintro e w1 ⟨rfl, b1⟩
  have B1 := Lib.hid (HB.out.trans (b1.mono HB.out.size))
  clear b1 l0
  go_wp2_with fail
  go_ret2
  exact ⟨_, rfl, by simp, bal B1.out _⟩
set_option maxRecDepth 100000 in
set_option maxHeartbeats 4000000 in
theorem mlwrite_ok (m : Mt) (A D : Option Addr) (c e : Nat) (w : World) (h : CoR w w.heap.size m.c A D) (hm : mayM m = true) :
    Calls Tryz.prog 39 #[.agg (mtX m A D c e)] w fun e w' => e = .returned (.tuple #[.string (bs (encM m)), .nilIface]) ∧ Below w.heap.size w w' := by
  obtain ⟨W0, hW0⟩ : ∃ W0, W0 = w.alloc (.cells (mtX m A D c e) 42) := ⟨_, rfl⟩
  have s0 : W0.heap.size = w.heap.size + 1 := by rw [hW0]; simp
  have B0 : Below w.heap.size w W0 := by rw [hW0]; exact bal (Below.refl _ _) _
  have K0 : Blk W0 w.heap.size 42 (mtX m A D c e) := by rw [hW0]; exact Blk.new w 42 _
  have l0 := mt_load (P := Tryz.prog) K0
  have MY := Lib.hid (mMay_all m A D c e W0.heap.size W0 (h.up B0) (Nat.le_refl _))
  rw [hm] at MY
  have hkd : 0 ≤ m.kd ∧ m.kd ≤ 7 := (cI_v 0 7 m.kd (by decide)).1 (cMt_v (K := 7) (S := 6) (by decide) (by decide) (by decide) (by decide) hm).2.1
  have wc : IntKind.i64.wrap m.kd = m.kd := IntWalk.i64_in _ (by omega)
  have HB := Lib.hid B0
  have HK := Lib.hid K0
  have HW := Lib.hid hW0
  have HS := Lib.hid s0
  have HKD := Lib.hid hkd
  have HM := Lib.hid hm
  have HD := Lib.hid h.2.1
  clear hW0 B0 K0 h hm hkd s0
  go_enter Tryz.func39, Tryz.ntmps39
  go_upto_region 1 with (fail)
  rw [← HW.out]
  go_wp2_with fail
  refine MY.out.mono ?_
  rintro e w1 ⟨rfl, b1⟩
  have B1 := Lib.hid (HB.out.trans (b1.mono HB.out.size))
  have KE1 := Lib.hid (HK.out.below b1 HK.out.lt)
  have lt1 : w.heap.size < w1.heap.size := by have := HS.out; have := b1.size; omega
  have LT1 := Lib.hid lt1
  have x0 : (w1.alloc (.cells #[.slice none 0 0, .int .i64 0] 107)).cell? ⟨w.heap.size, 0, none⟩ = some (.int .i8 m.kd) := mt_cell (KE1.out.alloc _) (j := 0) rfl
  obtain ⟨W2, hW2⟩ : ∃ W2, W2 = (w1.alloc (.cells #[.slice none 0 0, .int .i64 0] 107)).alloc (.cells #[.int .i64 m.kd] 3) := ⟨_, rfl⟩
  have KE2 := Lib.hid (show Blk W2 w.heap.size 42 (mtX m A D c e) by rw [hW2]; exact (KE1.out.alloc _).alloc _)
  have s2 : W2.heap.size = w1.heap.size + 1 + 1 := by rw [hW2]; simp
  have B2 := Lib.hid (show Below w.heap.size w W2 by rw [hW2]; exact bal (bal B1.out _) _)
  have HS2 := Lib.hid (show WmS w1.heap.size W2.heap.size [] W2 from ⟨none, 0, by rw [hW2]; exact (Blk.new w1 107 #[.slice none 0 0, .int .i64 0]).alloc _, World.ownsRow_nil _ _ _ _, by omega, Nat.le_refl _⟩)
  have KN := Lib.hid (show Blk W2 (w1.heap.size + 1) 3 #[.int .i64 m.kd] by rw [hW2]; exact bk_new _ 3 _ (by simp))
  have nm := wmnum w1.heap.size W2.heap.size [] (w1.heap.size + 1) 0 m.kd 0 7 W2 HS2.out (KN.out.cell 0) (by have := HKD.out; omega) (by have := HKD.out; omega) (by simp)
  have S2 := Lib.hid s2
  rw [List.nil_append] at nm
  have HW2 := Lib.hid hW2
  have NM := Lib.hid (show Calls Tryz.prog 67 #[.pointer (some ⟨w1.heap.size, 0, none⟩), .pointer (some ⟨w1.heap.size + 1, 0, none⟩), .int .i64 0, .int .i64 7] ((w1.alloc (.cells #[.slice none 0 0, .int .i64 0] 107)).alloc (.cells #[.int .i64 m.kd] 3)) (WmOk w1.heap.size W2.heap.size (enc m.kd.toNat) W2) from by rw [← HW2.out]; exact nm)
  clear hW2 b1 lt1 s2 nm l0
  go_wp2_with fail
  refine NM.out.mono ?_
  rintro e w3 ⟨rfl, hs, ho⟩
  have KE3 := Lib.hid (ho.blk KE2.out (by have := LT1.out; omega))
  have NA := Lib.hid (wmall w1.heap.size W2.heap.size (enc m.kd.toNat) w.heap.size w.heap.size m A D c e w3 hs KE3.out (by have := LT1.out; omega) (((HD.out.below B2.out)) |> fun k => ho.reads k (by have := B2.out.size; omega) (fun x hx e => by have := LT1.out; omega)) ⟨by have := LT1.out; omega, Nat.le_refl _, by have := LT1.out; have := S2.out; omega, by have := B2.out.size; have := ho.size; omega⟩ HM.out (by have := enc_bt (n := m.kd) (by have := HKD.out; omega); omega))
  have HO3 := Lib.hid ho
  clear hs ho x0
  go_wp2_with fail
  refine NA.out.mono ?_
  rintro e w4 ⟨rfl, ⟨AZ, cZ, kz, oz, _, _⟩, _, ho⟩
  have BZ := Lib.hid (show Below w.heap.size w w4 from B2.out.trans (((HO3.out.mono (S' := fun x => x = w1.heap.size ∨ x = w.heap.size) (fun _ _ h => .inl h)).trans ho).below (B := w.heap.size) B2.out.size (fun y hy => by have := LT1.out; omega)))
  have a0 := kz.cell 0
  have a1 := kz.cell 1
  have t1 := run_string_of (P := Tryz.prog) (src := 75) (dst := 9) (c := cZ) Tryz.underlying75 Tryz.underlying5 Tryz.underlying9 (Reads.of_own oz)
  obtain ⟨Z, hZ⟩ : ∃ Z, Z = enc m.kd.toNat ++ encMb m := ⟨_, rfl⟩
  rw [← hZ] at a0 t1
  have HZ := Lib.hid (show encM m = Z from hZ.symm)
  clear kz oz ho hZ
  go_wp2_with fail
  go_ret2
  exact ⟨by rw [HZ.out]; rfl, BZ.out⟩
end
def MbPost (x : ByteArray) (n : Int) (w : World) (e : Ending) (w' : World) : Prop := e = .returned (.tuple #[.string x, .int .i64 n]) ∧ Below w.heap.size w w'
noncomputable def bytesM (m : Mt) : ByteArray × Int := if mayM m = true then (bs (encM m), 0) else (ByteArray.empty, 2)
section
attribute [-go_sem] loadCells
set_option maxRecDepth 100000 in
set_option maxHeartbeats 4000000 in
theorem mlBytes_any (m : Mt) (A D : Option Addr) (c e : Nat) (w : World) (hg : HasET w) (h : CoR w w.heap.size m.c A D) :
    Calls Tryz.prog 16 #[.agg (mtX m A D c e)] w (MbPost (bytesM m).1 (bytesM m).2 w) := by
  obtain ⟨W0, hW0⟩ : ∃ W0, W0 = w.alloc (.cells (mtX m A D c e) 42) := ⟨_, rfl⟩
  have B0 : Below w.heap.size w W0 := by rw [hW0]; exact bal (Below.refl _ _) _
  have K0 : Blk W0 w.heap.size 42 (mtX m A D c e) := by rw [hW0]; exact Blk.new w 42 _
  have l0 := mt_load (P := Tryz.prog) K0
  have HB := Lib.hid B0
  have HW := Lib.hid hW0
  have HG := Lib.hid hg
  unfold bytesM
  cases hm : mayM m
  · have MW := Lib.hid (mlwrite_no m A D c e W0 (h.up B0) hm)
    clear hW0 B0 K0 h hm hg
    go_enter Tryz.func16, Tryz.ntmps16
    go_upto_region 1 with (fail)
    rw [← HW.out]
    go_wp2_with fail
    refine MW.out.mono ?_
    rintro e w1 ⟨b, rfl, hb, b1⟩
    have B1 := Lib.hid (HB.out.trans (b1.mono HB.out.size))
    have MC := Lib.hid (mlcode_fault b 2 w1 (HG.out.up B1.out) hb)
    clear b1 l0 hb
    go_wp2_with fail
    refine MC.out.mono ?_
    rintro e w2 ⟨rfl, b2⟩
    have B2 := Lib.hid (B1.out.trans (b2.mono B1.out.size))
    clear b2
    go_wp2_with fail
    go_ret2
    exact ⟨rfl, B2.out⟩
  · have MW := Lib.hid (mlwrite_ok m A D c e W0 (h.up B0) hm)
    clear hW0 B0 K0 h hm hg
    generalize bs (encM m) = Z at *
    go_enter Tryz.func16, Tryz.ntmps16
    go_upto_region 1 with (fail)
    rw [← HW.out]
    go_wp2_with fail
    refine MW.out.mono ?_
    rintro e w1 ⟨rfl, b1⟩
    have B1 := Lib.hid (HB.out.trans (b1.mono HB.out.size))
    have MC := Lib.hid (mlcode_nil w1)
    clear b1 l0
    go_wp2_with fail
    refine MC.out.mono ?_
    rintro e w2 ⟨rfl, b2⟩
    have B2 := Lib.hid (B1.out.trans (b2.mono B1.out.size))
    clear b2
    go_wp2_with fail
    go_ret2
    exact ⟨rfl, B2.out⟩
end
end Go.Proofs.YtbpkckahonmpkaaGreatDoor
namespace Go.Proofs.YtbpkckahonmpkaaGreatDoor
open Go.RowKit
def bigT (c : Co) : Bool := decide (40 < c.ps.length) || decide (40 < c.qs.length)
end Go.Proofs.YtbpkckahonmpkaaGreatDoor
namespace Go.Proofs.YtbpkckahonmpkaaGreatDoor
open Go.RowKit
structure MtM where
  x : Mt
  A : Option Addr
  D : Option Addr
  c : Nat
  e : Nat
def cE (y : MtM) : List Value := mtL y.x y.A y.D y.c y.e
def cellsE (l : List MtM) : List Value := l.flatMap cE
theorem cE_len (y : MtM) : (cE y).length = 17 := rfl
theorem cellsE_cons (y : MtM) (l : List MtM) : cellsE (y :: l) = cE y ++ cellsE l := by simp [cellsE]
theorem length_cellsE : ∀ l : List MtM, (cellsE l).length = l.length * 17
  | [] => rfl
  | m :: l => by rw [cellsE_cons, List.length_append, length_cellsE l, List.length_cons, cE_len]; omega
theorem cellsE_at : ∀ (l : List MtM) (i : Nat) (m : MtM) (j : Nat), l[i]? = some m → j < 17 → (cellsE l)[i * 17 + j]? = (cE m)[j]?
  | [], i, m, j, h, _ => by simp at h
  | x :: l, 0, m, j, h, hj => by
    simp at h
    subst h
    rw [show (0 * 17 + j) = j by omega, cellsE_cons]
    exact List.getElem?_append_left (by rw [cE_len]; exact hj)
  | x :: l, i + 1, m, j, h, hj => by
    have := cellsE_at l i m j (by simpa using h) hj
    rw [cellsE_cons, List.getElem?_append_right (by rw [cE_len]; omega), ← this, cE_len]
    congr 1
    omega
theorem Reads.plainE {w : World} {B n : Nat} {A : Option Addr} {l : List MtM} (h : Reads w B 17 A n (cellsE l)) (hn : 0 < n) :
    ∃ b off, A = some ⟨b, off, none⟩ ∧ b < B ∧ ∀ i m, l[i]? = some m → (loadCells ⟨b, off + i * 17, none⟩ 17).run Tryz.prog w = .ok (mtX m.x m.A m.D m.c m.e) w := by
  obtain ⟨ad, rfl, hb, hc⟩ := h.2 hn
  obtain ⟨b, off, spot⟩ := ad
  have hl : 0 < (cellsE l).length := by have := h.1; omega
  have h0 := hc 0 _ (List.getElem?_eq_getElem hl)
  have hs : spot = none := by simpa [Addr.add] using World.cell?_spot h0
  subst hs
  refine ⟨b, off, rfl, hb, fun i m hm => ?_⟩
  exact run_loadCells_list (P := Tryz.prog) w ⟨b, off + i * 17, none⟩ (cE m) (fun j v hv => by
    have hj : j < 17 := (List.getElem?_eq_some_iff.1 hv).1
    have k1 := hc _ _ ((cellsE_at l i m j hm hj).trans hv)
    rw [add_none] at k1
    rw [add_none, Nat.add_assoc]; exact k1)
/-- What is known of the lists of a row of entries. -/
def MtsR (w : World) (B : Nat) (l : List MtM) : Prop := ∀ y ∈ l, CoR w B y.x.c y.A y.D
theorem MtsR.below {w w' : World} {B : Nat} {l : List MtM} (h : MtsR w B l) (hb : Below B w w') : MtsR w' B l := fun y hy => CoR.below (h y hy) hb
def MtRaw (w : World) (m : Mt) (A D : Option Addr) : Prop := Reads w w.heap.size 1 A m.c.ps.length (cellsI .i64 m.c.ps) ∧ Reads w w.heap.size 3 D m.c.qs.length (cellsP m.c.qs) ∧ -128 ≤ m.c.st ∧ m.c.st ≤ 127
theorem MtRaw.co {w : World} {m : Mt} {A D : Option Addr} (h : MtRaw w m A D) (hb : bigT m.c = false) : CoR w w.heap.size m.c A D := by
  unfold bigT at hb
  simp only [Bool.or_eq_false_iff, decide_eq_false_iff_not, Nat.not_lt] at hb
  exact ⟨h.1, h.2.1, by omega, by omega⟩
section
attribute [-go_sem] loadCells storeVar
set_option maxRecDepth 100000 in
set_option maxHeartbeats 4000000 in
theorem rGreat19_any (m : Mt) (A D : Option Addr) (c e : Nat) (w : World) :
    Calls Tryz.prog 14 #[.agg (mtX m A D c e)] w fun e w' => e = .returned (.bool (bigT m.c)) ∧ Below w.heap.size w w' := by
  obtain ⟨W0, hW0⟩ : ∃ W0, W0 = w.alloc (.cells (mtX m A D c e) 42) := ⟨_, rfl⟩
  have B0 : Below w.heap.size w W0 := by rw [hW0]; exact bal (Below.refl _ _) _
  have K1 : Blk W0 w.heap.size 42 (mtX m A D c e) := by rw [hW0]; exact Blk.new w 42 _
  have HW := Lib.hid hW0
  have HB := Lib.hid B0
  have y5 := mt_cell K1 (j := 13) rfl
  have y6 := mt_cell K1 (j := 14) rfl
  obtain ⟨u, hu⟩ : ∃ u, decide ((40 : Int) < (m.c.ps.length : Int)) = u := ⟨_, rfl⟩
  obtain ⟨v, hv⟩ : ∃ v, decide ((40 : Int) < (m.c.qs.length : Int)) = v := ⟨_, rfl⟩
  have HN := Lib.hid (show bigT m.c = (u || v) by
    unfold bigT
    rw [← hu, ← hv]
    congr 1
    · exact decide_eq_decide.2 (by omega)
    · exact decide_eq_decide.2 (by omega))
  clear hW0 B0 K1
  cases u
  · cases v
    · go_enter Tryz.func14, Tryz.ntmps14
      go_upto_region 1 with (fail)
      rw [← HW.out]
      go_wp2_with fail
      go_ret
      rw [HN.out]
      exact ⟨rfl, HB.out⟩
    · go_enter Tryz.func14, Tryz.ntmps14
      go_upto_region 1 with (fail)
      rw [← HW.out]
      go_wp2_with fail
      go_ret
      rw [HN.out]
      exact ⟨rfl, HB.out⟩
  · go_enter Tryz.func14, Tryz.ntmps14
    go_upto_region 1 with (fail)
    rw [← HW.out]
    go_wp2_with fail
    go_ret
    rw [HN.out]
    exact ⟨by simp, HB.out⟩
end
end Go.Proofs.YtbpkckahonmpkaaGreatDoor
namespace Go.Proofs.YtbpkckahonmpkaaGreatDoor
open Go.RowKit

/-- A reader in memory. -/
abbrev RdB (w : World) (g : Nat) (s : ByteArray) (i : Nat) (bad : Bool) : Prop := Blk w g 164 #[.string s, .int .i64 (i : Int), .bool bad]

/-- The bytes from a place on, at most so many. -/
def winL (s : ByteArray) (i n : Nat) : List UInt8 := ((lb s).drop i).take n
theorem winL_eq (s : ByteArray) (i n m : Nat) (hm : m = min n (s.size - i)) : lb (s.extract i (i + m)) = winL s i n := by
  rw [lb_extract, List.drop_take, show i + m - i = m by omega, hm]
  unfold winL
  rw [← length_lb]
  rcases Nat.le_total n ((lb s).length - i) with h | h
  · rw [Nat.min_eq_left h]
  · rw [Nat.min_eq_right h, List.take_of_length_le (by simp), List.take_of_length_le (by simpa using h)]

set_option maxRecDepth 100000 in
set_option maxHeartbeats 1000000 in
theorem window_any (g : Nat) (s : ByteArray) (i n : Nat) (bad : Bool) (w : World) (h : RdB w g s i bad) (hs : s.size ≤ 1000000) (hi : i ≤ s.size) (hn : n ≤ 1099511627776) :
    Calls Tryz.prog 144 #[.pointer (some ⟨g, 0, none⟩), .int .i64 (n : Int)] w fun e w' => ∃ A c, e = .returned (.slice A (winL s i n).length c) ∧ Reads w' w'.heap.size 1 A (winL s i n).length (cellsB (winL s i n)) ∧ (winL s i n).length ≤ c ∧ Below w.heap.size w w' := by
  obtain ⟨d, hd⟩ : ∃ d : Nat, d = s.size - i := ⟨_, rfl⟩
  obtain ⟨m, hm⟩ : ∃ m : Nat, m = min n d := ⟨_, rfl⟩
  have hw := winL_eq s i n m (by omega)
  obtain ⟨L, hL⟩ : ∃ L, L = winL s i n := ⟨_, rfl⟩
  rw [← hL] at hw ⊢
  have x0 := h.cell 0
  have x1 := h.cell 1
  have e1 : decide ((i : Int) < 0) = false := by simp
  have e2 : decide ((s.size : Int) < (i : Int)) = false := by simp; omega
  have v1 : IntKind.i64.wrap ((s.size : Int) - (i : Int)) = (d : Int) := by rw [IntWalk.i64_in _ (by omega)]; omega
  have v2 : (if d < n then (d : Int) else (n : Int)) = (m : Int) := by split <;> omega
  have v3 : IntKind.i64.wrap ((i : Int) + (m : Int)) = (i : Int) + (m : Int) := IntWalk.i64_in _ (by omega)
  have hsl : ∀ W : World, (Instr.slice 9 (.string s) (some (.int .i64 (i : Int))) (some (.int .i64 ((i : Int) + (m : Int)))) none).run Tryz.prog W = .ok (.string (s.extract i (i + m))) W := by
    intro W
    rw [run_slice_string_if W 9 s .i64 .i64 _ _ Tryz.underlying9, if_pos (by omega), if_pos (by omega)]
    rw [show ((i : Int) + (m : Int)).toNat = i + m by omega, Int.toNat_natCast]
  have hsz : (s.extract i (i + m)).size = L.length := by rw [← hw, length_lb]
  have HW := Lib.hid hw
  have HSZ := Lib.hid hsz
  have HL := Lib.hid hL
  clear hw hsz hL hd hm h
  go_enter Tryz.func144, Tryz.ntmps144
  go_wp2_with fail
  go_quiet (fail)
  go_wp2_with fail
  refine wp_region_qtail 26 (by kernel_rfl) (by kernel_rfl) ?_
  simp only [List.take_succ_cons, List.take_zero, List.drop_succ_cons, List.drop_zero]
  repeat (go_big_quiet_step (fail))
  refine wpQuiet_nil ?_
  obtain ⟨cap, W', hrun, hcap, hcell, hsize, hgrow⟩ := bytes_of_ex (P := Tryz.prog) Tryz.underlying9 Tryz.underlying75 Tryz.underlying5 (w.drewN (nq + 1)) (s.extract i (i + m))
  rw [HSZ.out] at hrun hcap hcell
  have HCELL := Lib.hid hcell
  have HSIZE := Lib.hid hsize
  clear hcell hsize v1 v2 v3 hsl
  go_wp2_with fail
  go_ret
  refine ⟨_, cap, rfl, ⟨by rw [length_cellsB]; omega, fun _ => ⟨_, rfl, by rw [HSIZE.out]; exact Nat.lt_succ_self _, fun j u hu => ?_⟩⟩, hcap, ?_⟩
  · rw [getElem?_cellsB, Option.map_eq_some_iff] at hu
    obtain ⟨c, hc, rfl⟩ := hu
    have hj := (List.getElem?_eq_some_iff.1 hc).1
    rw [add_none, Nat.zero_add]
    have := HCELL.out j hj
    rw [HW.out, List.getD_eq_getElem?_getD, hc] at this
    exact this
  · exact (below_drewN (Below.refl _ _) (nq + 1)).grown hgrow (Nat.le_refl _) (fun k hk => by cases hk)

/-- A stop that goes through a call. -/
def PanPost (w : World) (e : Ending) (w' : World) : Prop :=
  ∃ b, e = .panicked [{ v := .iface 201 (.pointer (some ⟨b, 0, none⟩)), recovered := false }] ∧ w.heap.size ≤ b ∧ w'.cell? ⟨b, 1, none⟩ = some (.int .i64 70) ∧ Below w.heap.size w w'
theorem len6 (w : World) : Calls Tryz.prog 139 #[.int .i64 1099511627776] w fun e w' => e = .returned (.int .i64 6) ∧ w = w' := len_ok 1099511627776 w (Nat.le_refl _)

theorem winL_dec (s : ByteArray) (i : Nat) : dec (winL s i 6) = dec ((lb s).drop i) := dec_take _
theorem winL_len (s : ByteArray) (i n : Nat) : (winL s i n).length ≤ n := by unfold winL; rw [List.length_take]; omega

set_option maxRecDepth 100000 in
set_option maxHeartbeats 1000000 in
theorem number_no (g : Nat) (s : ByteArray) (i : Nat) (bad : Bool) (lo hi : Int) (w : World) (h : RdB w g s i bad) (hg : HasET w) (hs : s.size ≤ 1000000) (hat : i ≤ s.size)
    (hno : dec ((lb s).drop i) = none ∨ ∃ n k, dec ((lb s).drop i) = some (n, k) ∧ ¬ (lo ≤ (n : Int) ∧ (n : Int) ≤ hi)) :
    Calls Tryz.prog 136 #[.pointer (some ⟨g, 0, none⟩), .int .i64 lo, .int .i64 hi] w (PanPost w) := by
  have HWN := Lib.hid (window_any g s i 6 bad w h hs hat (by omega))
  have HG := Lib.hid hg
  have hlen := winL_len s i 6
  have hgo : getOf (winL s i 6) 0 = (0, 0, 70) ∨ ∃ n k : Nat, getOf (winL s i 6) 0 = ((n : Int), (k : Int), 0) ∧ ¬ (lo ≤ (n : Int) ∧ (n : Int) ≤ hi) := by
    rcases hno with hd | ⟨n, k, hd, hr⟩
    · exact .inl (getOf_bad _ 0 (by rw [List.drop_zero, winL_dec]; exact hd) (Nat.zero_le _))
    · have := getOf_ok (winL s i 6) 0 n k (by rw [List.drop_zero, winL_dec]; exact hd) (Nat.zero_le _)
      exact .inr ⟨n, k, by rw [show ((0 : Nat) : Int) + (k : Int) = (k : Int) by omega] at this; exact this, hr⟩
  generalize winL s i 6 = L at *
  have HGO := Lib.hid hgo
  clear h hg hno hgo
  go_enter Tryz.func136, Tryz.ntmps136
  go_wp2_with fail
  refine (len6 _).mono ?_
  rintro e w0 ⟨rfl, rfl⟩
  go_wp2_with fail
  refine HWN.out.mono ?_
  rintro e w1 ⟨A1, c1, rfl, r1, hc1, b1⟩
  have HGT := Lib.hid (Get_any A1 L c1 0 w1 (by omega) (HG.out.up b1) r1)
  clear r1
  go_wp2_with fail
  refine HGT.out.mono ?_
  rintro e w2 ⟨rfl, b2⟩
  have bf := btrans b1 b2
  have BF := Lib.hid bf
  rcases HGO.out with hgo | ⟨n, k, hgo, hr⟩
  · rw [hgo]
    clear hgo b1 b2 bf
    go_wp2_with fail
    exact ⟨rfl, w2.heap.size, rfl, BF.out.size, by simp, bal BF.out _⟩
  · rw [hgo]
    have HR := Lib.hid hr
    clear hgo hr b1 b2 bf
    by_cases h1 : (n : Int) < lo
    · have d1 : decide ((n : Int) < lo) = true := decide_eq_true h1
      go_wp2_with fail
      exact ⟨rfl, w2.heap.size, rfl, BF.out.size, by simp, bal BF.out _⟩
    · have d1 : decide ((n : Int) < lo) = false := decide_eq_false h1
      have d2 : decide (hi < (n : Int)) = true := decide_eq_true (by have := HR.out; omega)
      go_wp2_with fail
      exact ⟨rfl, w2.heap.size, rfl, BF.out.size, by simp, bal BF.out _⟩

/-- Behind a reading: the reader's place; but for the reader all is as it was. -/
def RdPost (g : Nat) (s : ByteArray) (v : Value) (i : Nat) (bad : Bool) (w : World) (e : Ending) (w' : World) : Prop :=
  e = .returned v ∧ RdB w' g s i bad ∧ Only (fun x => x = g) w w'

set_option maxRecDepth 100000 in
set_option maxHeartbeats 1000000 in
theorem number_ok (g : Nat) (s : ByteArray) (i : Nat) (bad : Bool) (lo hi : Int) (n k : Nat) (w : World) (h : RdB w g s i bad) (hg : HasET w) (hs : s.size ≤ 1000000) (hat : i ≤ s.size)
    (hd : dec ((lb s).drop i) = some (n, k)) (hr : lo ≤ (n : Int) ∧ (n : Int) ≤ hi) :
    Calls Tryz.prog 136 #[.pointer (some ⟨g, 0, none⟩), .int .i64 lo, .int .i64 hi] w (RdPost g s (.int .i64 n) (i + k) bad w) := by
  have HWN := Lib.hid (window_any g s i 6 bad w h hs hat (by omega))
  have HG := Lib.hid hg
  have HK := Lib.hid h
  have hlen := winL_len s i 6
  have hk6 := (dec_le hd).2.2
  have hgo : getOf (winL s i 6) 0 = ((n : Int), (k : Int), 0) := by
    have := getOf_ok (winL s i 6) 0 n k (by rw [List.drop_zero, winL_dec]; exact hd) (Nat.zero_le _)
    rw [show ((0 : Nat) : Int) + (k : Int) = (k : Int) by omega] at this; exact this
  generalize winL s i 6 = L at *
  have HGO := Lib.hid hgo
  obtain ⟨r1, r2⟩ := hr
  have d1 : decide ((n : Int) < lo) = false := decide_eq_false (by omega)
  have d2 : decide (hi < (n : Int)) = false := decide_eq_false (by omega)
  clear h hg hgo hd
  go_enter Tryz.func136, Tryz.ntmps136
  go_wp2_with fail
  refine (len6 _).mono ?_
  rintro e w0 ⟨rfl, rfl⟩
  go_wp2_with fail
  refine HWN.out.mono ?_
  rintro e w1 ⟨A1, c1, rfl, rd1, hc1, b1⟩
  have HGT := Lib.hid (Get_any A1 L c1 0 w1 (by omega) (HG.out.up b1) rd1)
  clear rd1
  go_wp2_with fail
  refine HGT.out.mono ?_
  rintro e w2 ⟨rfl, b2⟩
  have BF := Lib.hid (btrans b1 b2)
  have k2 := HK.out.below (btrans b1 b2) HK.out.lt
  have x1 := k2.cell 1
  have x2 := k2.frozen 1
  have K2 := Lib.hid k2
  rw [HGO.out]
  clear b1 b2 k2
  go_wp2_with fail
  go_ret
  refine ⟨rfl, ?_, (Only.of_below (fun x => x = g) BF.out).set (.inl rfl) _⟩
  have := K2.out.set_ 1 (.int .i64 ((i : Int) + (k : Int)))
  rw [show ((i : Int) + (k : Int)) = ((i + k : Nat) : Int) by omega] at this ⊢
  exact this
end Go.Proofs.YtbpkckahonmpkaaGreatDoor
namespace Go.Proofs.YtbpkckahonmpkaaGreatDoor
open Go.RowKit

theorem skip_then {P : Program} {y : Code} {Q : Exit → Act → List Frame → World → Prop} {a : Act} {cs : List Frame} {w : World} (h : y.wpS P Q a cs w) : Code.skip.wpS P (Exit.thenS (y.wpS P Q) Q) a cs w := wpS_of_wp (wp_skip h)

theorem catch_idle (ba br be : Nat) (w : World) :
    CallsD Tryz.prog 142 #[.pointer (some ⟨ba, 0, none⟩), .pointer (some ⟨br, 0, none⟩), .pointer (some ⟨be, 0, none⟩)] .returning w fun e u' w' => e = .returned (.tuple #[]) ∧ u' = .returning ∧ w' = w := by
  refine callsD_of_wpS Tryz.func142 rfl fun c₀ cs hu => ?_
  apply wpS_seq
  apply wpS_region
  simp [wpOpsS, go_sem, recoverD, hu, Tryz.ntmps142, Exit.thenS]
  apply wpS_seq
  apply wpS_seq
  apply wpS_region
  simp [wpOpsS, go_sem, Exit.thenS]
  refine wpS_cond (t := true) (by simp [Act.eval, Array.replicate]) ?_
  simp only [if_true]
  refine wpS_of_wp (wp_ret ?_)
  cases c₀
  simp_all [bodyPostS, results, Tryz.results142, Exit.thenS]

set_option maxRecDepth 100000 in
set_option maxHeartbeats 1000000 in
theorem catch_stop (ba br be g b : Nat) (s : ByteArray) (i j : Nat) (bad : Bool) (x : Value) (w : World) (h : RdB w g s j bad) (ha : Blk w ba 3 #[.int .i64 (i : Int)]) (hr : Blk w br 125 #[.pointer (some ⟨g, 0, none⟩)]) (he : Blk w be 71 #[x]) :
    CallsD Tryz.prog 142 #[.pointer (some ⟨ba, 0, none⟩), .pointer (some ⟨br, 0, none⟩), .pointer (some ⟨be, 0, none⟩)] (.panicking [{ v := .iface 201 (.pointer (some ⟨b, 0, none⟩)), recovered := false }]) w fun e u' w' => e = .returned (.tuple #[]) ∧ u' = .panicking [{ v := .iface 201 (.pointer (some ⟨b, 0, none⟩)), recovered := true }] ∧
      Blk w' be 71 #[.iface 201 (.pointer (some ⟨b, 0, none⟩))] ∧ RdB w' g s i true ∧ Only (fun y => y = g ∨ y = be) w w' := by
  have x1 := h.frozen 1
  have x2 := h.frozen 2
  have x3 := h.cell 1
  have x4 := h.cell 2
  have y1 := ha.cell 0
  have y2 := hr.cell 0
  have y3 := he.cell 0
  have y4 := he.frozen 0
  have n1 : ¬ g = be := h.ne_ he (by decide)
  have n2 : ¬ be = g := fun h' => n1 h'.symm
  have n3 : be < w.heap.size := he.lt
  have n4 : ¬ be = w.heap.size := by omega
  have H := Lib.hid h
  have HE := Lib.hid he
  have hta : ∀ W : World, (Instr.typeAssert (.iface 201 (.pointer (some ⟨b, 0, none⟩))) 20 201 true).run Tryz.prog W = .ok (.tuple #[.pointer (some ⟨b, 0, none⟩), .bool true]) W := fun _ => by kernel_rfl
  clear h ha hr he
  refine callsD_of_wpS Tryz.func142 rfl fun c₀ cs hu => ?_
  apply wpS_seq
  apply wpS_region
  simp [wpOpsS, go_sem, recoverD, hu, Tryz.ntmps142, Exit.thenS]
  apply wpS_seq
  apply wpS_seq
  apply wpS_region
  simp [wpOpsS, go_sem, Exit.thenS]
  refine wpS_cond (t := false) (by simp [Act.eval, Array.replicate]) ?_
  simp only [Bool.false_eq_true, if_false]
  refine skip_then ?_
  refine wpS_of_wp ?_
  have hT : (#[Value.pointer (some ⟨ba, 0, none⟩), Value.pointer (some ⟨br, 0, none⟩), Value.pointer (some ⟨be, 0, none⟩)] ++ ((((Array.replicate 24 undef).setIfInBounds 3 (Value.iface 201 (.pointer (some ⟨b, 0, none⟩)))).setIfInBounds 0 (Value.iface 201 (.pointer (some ⟨b, 0, none⟩)))).setIfInBounds 4 (Value.iface 201 (.pointer (some ⟨b, 0, none⟩)))).setIfInBounds 5 (Value.bool false) : Array Value) = #[Value.pointer (some ⟨ba, 0, none⟩), Value.pointer (some ⟨br, 0, none⟩), Value.pointer (some ⟨be, 0, none⟩), Value.iface 201 (.pointer (some ⟨b, 0, none⟩)), undef, undef, Value.iface 201 (.pointer (some ⟨b, 0, none⟩)), Value.iface 201 (.pointer (some ⟨b, 0, none⟩)), .bool false, undef, undef, undef, undef, undef, undef, undef, undef, undef, undef, undef, undef, undef, undef, undef, undef, undef, undef] := by kernel_rfl
  rw [hT]
  clear hT
  go_wp2_with fail
  refine ⟨rfl, _, rfl, .tuple #[], by simp [results, Tryz.results142], rfl, rfl, ?_, ?_, ?_⟩
  · exact ((((HE.out.far n2 _).far n2 _).set_ 0 _).set_ 0 _).alloc _
  · exact ((((H.out.set_ 1 _).set_ 2 _).far n1 _).far n1 _).alloc _
  · exact (((((Only.refl (fun y => y = g ∨ y = be) w).set (.inl (.inl rfl)) _).set (.inl (.inl rfl)) _).set (.inl (.inr rfl)) _).set (.inl (.inr rfl)) _).alloc _
end Go.Proofs.YtbpkckahonmpkaaGreatDoor
namespace Go.Proofs.YtbpkckahonmpkaaGreatDoor
open Go.RowKit

theorem blk_new (w : World) (t : TypeId) (cs : Array Value) {g : Nat} (hg : w.heap.size = g) : Blk (w.alloc (.cells cs t)) g t cs := hg ▸ Blk.new w t cs
/-- Behind a field that was read: what the reading left, but for new blocks. -/
def FieldOk (Q : World → World → Prop) (w : World) (e : Ending) (w' : World) : Prop :=
  e = .returned .nilIface ∧ ∃ W w1, Below w.heap.size w W ∧ Q W w1 ∧ Below w.heap.size w1 w'
/-- Behind one that was not: a stop's error; the reader stands where it was, stopped. -/
def FieldNo (g : Nat) (s : ByteArray) (i : Nat) (w : World) (e : Ending) (w' : World) : Prop :=
  ∃ b, e = .returned (.iface 201 (.pointer (some ⟨b, 0, none⟩))) ∧ w'.cell? ⟨b, 1, none⟩ = some (.int .i64 70) ∧ RdB w' g s i true ∧ Only (fun x => x = g) w w'

set_option maxRecDepth 100000 in
set_option maxHeartbeats 1000000 in
theorem field_ok (g : Nat) (s : ByteArray) (i : Nat) (K : FuncId) (cap : Array Value) (S : Nat → Prop) (Q : World → World → Prop) (w : World) (h : RdB w g s i false)
    (hcf : ∀ (args : Array Value) (W : World), (callFunc K args).run Tryz.prog W = .ok (.enter K args) W)
    (hQ : ∀ W w', Q W w' → Only S W w') (hS : ∀ x, S x → x < w.heap.size)
    (hone : ∀ W, RdB W g s i false → Below w.heap.size w W → Calls Tryz.prog K (#[.pointer (some ⟨g, 0, none⟩)] ++ cap) W fun e w' => e = .returned (.tuple #[]) ∧ Q W w') :
    Calls Tryz.prog 134 #[.pointer (some ⟨g, 0, none⟩), .func (.func K) #[] cap] w (FieldOk Q w) := by
  have hmf : ∀ (fn : Fn) (first cap : Array Value) (w : World), (Instr.makeFunc fn first cap).run Tryz.prog w = .ok (.func fn first cap) w := fun _ _ _ _ => rfl
  have x1 := h.cell 1
  have x2 := h.cell 2
  have hl := h.lt
  have b3 := ((h.alloc (.cells #[.pointer (some ⟨g, 0, none⟩)] 125)).alloc (.cells #[.nilIface] 71)).alloc (.cells #[.int .i64 (i : Int)] 3)
  have l3 := (((Below.refl w.heap.size w).alloc (Nat.le_refl _) (.cells #[.pointer (some ⟨g, 0, none⟩)] 125)).alloc (by simp) (.cells #[.nilIface] 71)).alloc (by simp; omega) (.cells #[.int .i64 (i : Int)] 3)
  have y2 := b3.cell 2
  have B3 := Lib.hid b3
  have L3 := Lib.hid l3
  have hl1 : ¬ g = w.heap.size := by omega
  have hl2 : ¬ g = w.heap.size + 1 := by omega
  have H := Lib.hid h
  have HO := Lib.hid hone
  have HQ := Lib.hid hQ
  have HS := Lib.hid hS
  clear h hone hQ hS b3 l3
  go_enter_defers Tryz.func134, Tryz.ntmps134
  go_wp2_with fail
  refine (HO.out _ B3.out L3.out).mono ?_
  rintro e w1 ⟨rfl, q1⟩
  have o1 := HQ.out _ _ q1
  have be : Blk w1 (w.heap.size + 1) 71 #[.nilIface] := o1.blk ((blk_new (w.alloc (.cells #[.pointer (some ⟨g, 0, none⟩)] 125)) 71 #[.nilIface] (by simp)).alloc _) (fun hs => by have := HS.out _ hs; omega)
  have z1 := be.cell 0
  have z2 := be.frozen 0
  have Q1 := Lib.hid q1
  have BE := Lib.hid be
  clear o1 q1 be
  go_wp2_with fail
  refine leaves_cons (f := 142) (args := #[.pointer (some ⟨w.heap.size + 1 + 1, 0, none⟩), .pointer (some ⟨w.heap.size, 0, none⟩), .pointer (some ⟨w.heap.size + 1, 0, none⟩)]) (by simp) (by simp [go_sem]) ?_
  refine (catch_idle _ _ _ _).mono ?_
  rintro e u' w2 ⟨rfl, rfl, rfl⟩
  exact ⟨.nilIface, by simp [results, Tryz.results134, go_sem, z1], rfl, _, w1, L3.out, Q1.out, (Below.refl _ _).setCell (by simp) _⟩

set_option maxRecDepth 100000 in
set_option maxHeartbeats 1000000 in
theorem field_no (g : Nat) (s : ByteArray) (i : Nat) (K : FuncId) (cap : Array Value) (w : World) (h : RdB w g s i false)
    (hcf : ∀ (args : Array Value) (W : World), (callFunc K args).run Tryz.prog W = .ok (.enter K args) W)
    (hone : ∀ W, RdB W g s i false → Below w.heap.size w W → Calls Tryz.prog K (#[.pointer (some ⟨g, 0, none⟩)] ++ cap) W fun e w' => ∃ W', Only (fun x => x = g) W W' ∧ (∃ j, RdB W' g s j false) ∧ PanPost W' e w') :
    Calls Tryz.prog 134 #[.pointer (some ⟨g, 0, none⟩), .func (.func K) #[] cap] w (FieldNo g s i w) := by
  have hmf : ∀ (fn : Fn) (first cap : Array Value) (w : World), (Instr.makeFunc fn first cap).run Tryz.prog w = .ok (.func fn first cap) w := fun _ _ _ _ => rfl
  have x1 := h.cell 1
  have x2 := h.cell 2
  have hl := h.lt
  have a0 := blk_new w 125 #[.pointer (some ⟨g, 0, none⟩)] rfl
  have a1 := blk_new (w.alloc (.cells #[.pointer (some ⟨g, 0, none⟩)] 125)) 71 #[.nilIface] (g := w.heap.size + 1) (by simp)
  have a2 := blk_new ((w.alloc (.cells #[.pointer (some ⟨g, 0, none⟩)] 125)).alloc (.cells #[.nilIface] 71)) 3 #[.int .i64 (i : Int)] (g := w.heap.size + 1 + 1) (by simp)
  have b3 := ((h.alloc (.cells #[.pointer (some ⟨g, 0, none⟩)] 125)).alloc (.cells #[.nilIface] 71)).alloc (.cells #[.int .i64 (i : Int)] 3)
  have l3 := (((Below.refl w.heap.size w).alloc (Nat.le_refl _) (.cells #[.pointer (some ⟨g, 0, none⟩)] 125)).alloc (by simp) (.cells #[.nilIface] 71)).alloc (by simp; omega) (.cells #[.int .i64 (i : Int)] 3)
  have y2 := b3.cell 2
  have A0 := Lib.hid ((a0.alloc (.cells #[.nilIface] 71)).alloc (.cells #[.int .i64 (i : Int)] 3))
  have A1 := Lib.hid (a1.alloc (.cells #[.int .i64 (i : Int)] 3))
  have A2 := Lib.hid a2
  have B3 := Lib.hid b3
  have L3 := Lib.hid l3
  have hl1 : ¬ g = w.heap.size := by omega
  have hl2 : ¬ g = w.heap.size + 1 := by omega
  clear a0 a1 a2 b3 l3
  have HO := Lib.hid hone
  clear h hone
  go_enter_defers Tryz.func134, Tryz.ntmps134
  go_wp2_with fail
  refine (HO.out _ B3.out L3.out).mono ?_
  rintro e w1 ⟨W', o1, ⟨j, k1⟩, b, rfl, hb, hc, hbel⟩
  have e0 := (o1.blk A0.out (by omega)).below hbel ((o1.blk A0.out (by omega)).lt)
  have e1 := (o1.blk A1.out (by omega)).below hbel ((o1.blk A1.out (by omega)).lt)
  have e2 := (o1.blk A2.out (by omega)).below hbel ((o1.blk A2.out (by omega)).lt)
  have e3 := k1.below hbel k1.lt
  have hlt := o1.size
  simp only [World.size_alloc] at hlt
  have ow : Only (fun x => x = g) w w1 := ((Only.of_below (fun x => x = g) L3.out).trans o1).then_below hbel
  refine leaves_cons (f := 142) (args := #[.pointer (some ⟨w.heap.size + 1 + 1, 0, none⟩), .pointer (some ⟨w.heap.size, 0, none⟩), .pointer (some ⟨w.heap.size + 1, 0, none⟩)]) (by simp) (by simp [go_sem]) ?_
  refine (catch_stop _ _ _ g b s i j false _ _ e3 e2 e0 e1).mono ?_
  rintro e u' w2 ⟨rfl, rfl, k2, k3, k4⟩
  have z1 := k2.cell 0
  refine ⟨.iface 201 (.pointer (some ⟨b, 0, none⟩)), by simp [results, Tryz.results134, go_sem, z1], b, rfl, ?_, k3, ow.step k4 (fun x hx hs => by omega)⟩
  rw [k4.cell (p := ⟨b, 1, none⟩) (cell_lt hc) (by simp; omega)]
  exact hc

set_option maxRecDepth 100000 in
set_option maxHeartbeats 1000000 in
theorem field_bad (g : Nat) (s : ByteArray) (i : Nat) (K : FuncId) (cap : Array Value) (w : World) (h : RdB w g s i true) :
    Calls Tryz.prog 134 #[.pointer (some ⟨g, 0, none⟩), .func (.func K) #[] cap] w (FieldNo g s i w) := by
  have hmf : ∀ (fn : Fn) (first cap : Array Value) (w : World), (Instr.makeFunc fn first cap).run Tryz.prog w = .ok (.func fn first cap) w := fun _ _ _ _ => rfl
  have x1 := h.cell 1
  have x2 := h.cell 2
  have hl := h.lt
  have a0 := blk_new w 125 #[.pointer (some ⟨g, 0, none⟩)] rfl
  have a1 := blk_new (w.alloc (.cells #[.pointer (some ⟨g, 0, none⟩)] 125)) 71 #[.nilIface] (g := w.heap.size + 1) (by simp)
  have a2 := blk_new ((w.alloc (.cells #[.pointer (some ⟨g, 0, none⟩)] 125)).alloc (.cells #[.nilIface] 71)) 3 #[.int .i64 (i : Int)] (g := w.heap.size + 1 + 1) (by simp)
  have b3 := ((h.alloc (.cells #[.pointer (some ⟨g, 0, none⟩)] 125)).alloc (.cells #[.nilIface] 71)).alloc (.cells #[.int .i64 (i : Int)] 3)
  have l3 := (((Below.refl w.heap.size w).alloc (Nat.le_refl _) (.cells #[.pointer (some ⟨g, 0, none⟩)] 125)).alloc (by simp) (.cells #[.nilIface] 71)).alloc (by simp; omega) (.cells #[.int .i64 (i : Int)] 3)
  have y2 := b3.cell 2
  have A0 := Lib.hid ((a0.alloc (.cells #[.nilIface] 71)).alloc (.cells #[.int .i64 (i : Int)] 3))
  have A1 := Lib.hid (a1.alloc (.cells #[.int .i64 (i : Int)] 3))
  have A2 := Lib.hid a2
  have B3 := Lib.hid b3
  have L3 := Lib.hid l3
  have hl1 : ¬ g = w.heap.size := by omega
  have hl2 : ¬ g = w.heap.size + 1 := by omega
  clear a0 a1 a2 b3 l3
  clear h
  go_enter_defers Tryz.func134, Tryz.ntmps134
  go_wp2_with fail
  refine leaves_cons (f := 142) (args := #[.pointer (some ⟨w.heap.size + 1 + 1, 0, none⟩), .pointer (some ⟨w.heap.size, 0, none⟩), .pointer (some ⟨w.heap.size + 1, 0, none⟩)]) (by simp) (by simp [go_sem]) ?_
  refine (catch_stop _ _ _ g (w.heap.size + 1 + 1 + 1) s i i true _ _ (B3.out.alloc _) (A2.out.alloc _) (A0.out.alloc _) (A1.out.alloc _)).mono ?_
  rintro e u' w2 ⟨rfl, rfl, k2, k3, k4⟩
  have z1 := k2.cell 0
  refine ⟨.iface 201 (.pointer (some ⟨w.heap.size + 1 + 1 + 1, 0, none⟩)), by simp [results, Tryz.results134, go_sem, z1], _, rfl, ?_, k3, ((Only.of_below (fun x => x = g) L3.out).alloc _).step k4 (fun x hx hs => by omega)⟩
  rw [k4.cell (p := ⟨w.heap.size + 1 + 1 + 1, 1, none⟩) (by simp) (by simp; omega)]
  exact (blk_new (((w.alloc (.cells #[.pointer (some ⟨g, 0, none⟩)] 125)).alloc (.cells #[.nilIface] 71)).alloc (.cells #[.int .i64 (i : Int)] 3)) 203 #[_, .int .i64 70] (by simp)).cell 1

end Go.Proofs.YtbpkckahonmpkaaGreatDoor
namespace Go.Proofs.YtbpkckahonmpkaaGreatDoor.ErFi
open Go.RowKit Go.Stop Go.Extern

theorem asTypeOfB (v : Value) (w : World) : (callFunc 106 #[.iface 201 v]).run Tryz.prog w = .ok (.value (.iface 178 (.agg #[.pointer (some ⟨1, 201, none⟩)]))) w := by kernel_rfl
theorem asAssignB (w : World) : (callFunc 191 #[.agg #[.pointer (some ⟨1, 201, none⟩)], .iface 178 (.agg #[.pointer (some ⟨1, 35, none⟩)])]).run Tryz.prog w = .ok (.value (.bool false)) w := by kernel_rfl
theorem asNoAs (v : Value) (xT : TypeId) (w : World) : (Instr.typeAssert (.iface 201 v) xT 190 true).run Tryz.prog w = .ok (.tuple #[.nilIface, .bool false]) w := run_typeAssert_lacksB Tryz.underlying190 (by kernel_rfl) (by kernel_rfl) v xT w
theorem asHasUnwrap (v : Value) (xT : TypeId) (w : World) : (Instr.typeAssert (.iface 201 v) xT 183 true).run Tryz.prog w = .ok (.tuple #[.iface 201 v, .bool true]) w := run_typeAssert_hasB Tryz.underlying183 (by kernel_rfl) v xT w
theorem asMethodUnwrap (k : Nat) (v : Value) (w : World) : (Go.method (k + 1) 201 v "Unwrap").run Tryz.prog w = .ok (202, v) w := by kernel_rfl
set_option maxHeartbeats 4000000 in
/-- errors.As(&error{.., n}, &e): true, and e is n. -/
theorem as_any (b t : Nat) (n : Int) (old : Value) (w : World) (hg : w.cell? ⟨0, 0, none⟩ = some (.iface 178 (.agg #[.pointer (some ⟨1, 71, none⟩)])))
    (hb1 : w.cell? ⟨b, 1, none⟩ = some (.int .i64 n)) (ht0 : w.cell? ⟨t, 0, none⟩ = some old) (hf0 : w.frozen? ⟨t, 0, none⟩ = false) :
    Calls Tryz.prog 70 #[.iface 201 (.pointer (some ⟨b, 0, none⟩)), .iface 117 (.pointer (some ⟨t, 0, none⟩))] w fun ev w' => ev = .returned (.bool true) ∧ asWorld w t n = w' := by
  have hlt : 0 < w.heap.size := by
    rcases Nat.lt_or_ge 0 w.heap.size with h | h
    · exact h
    · simp [World.cell?, Array.getElem?_eq_none h] at hg
  have hbl : b < w.heap.size := by
    rcases Nat.lt_or_ge b w.heap.size with h | h
    · exact h
    · simp [World.cell?, Array.getElem?_eq_none h] at hb1
  have htl : t < w.heap.size := by
    rcases Nat.lt_or_ge t w.heap.size with h | h
    · exact h
    · simp [World.cell?, Array.getElem?_eq_none h] at ht0
  have f1 := asValueOf
  have f2 := asType
  have f3 := asMethodKind
  have f4 := asKindP
  have f5 := asKindE
  have f6 := asMethodElem
  have f7 := asMethodImplements
  have f8 := asMethodAssignable
  have f9 := asElem
  have f10 := asImplements
  have f11 := asTypeOfB
  have f12 := asTypeOfE
  have f13 := asAssignB
  have f14 := asAssignE
  have f15 := asValueOfE
  have f16 := asNoAs
  have f17 := asHasUnwrap
  have f18 := asMethodUnwrap
  have n8 := asIsNil ⟨w.heap.size, 0, none⟩ ⟨t, 0, none⟩ ((w.alloc (.cells #[.pointer (some ⟨t, 0, none⟩)] 117)).alloc (.cells #[.pointer (some ⟨1, 117, none⟩), .pointer (some ⟨w.heap.size, 0, none⟩), .int .u64 150] 148)) (by simp)
  have hg2 : ((w.alloc (.cells #[.pointer (some ⟨t, 0, none⟩)] 117)).alloc (.cells #[.pointer (some ⟨1, 117, none⟩), .pointer (some ⟨w.heap.size, 0, none⟩), .int .u64 150] 148)).cell? ⟨0, 0, none⟩ = some (.iface 178 (.agg #[.pointer (some ⟨1, 71, none⟩)])) := by
    rw [World.cell?_alloc_lt _ _ ⟨0, 0, none⟩ (by simp only [World.size_alloc]; omega), World.cell?_alloc_lt _ _ ⟨0, 0, none⟩ hlt]; exact hg
  have hb2 : (((w.alloc (.cells #[.pointer (some ⟨t, 0, none⟩)] 117)).alloc (.cells #[.pointer (some ⟨1, 117, none⟩), .pointer (some ⟨w.heap.size, 0, none⟩), .int .u64 150] 148)).alloc (.cells #[.pointer (some ⟨1, 117, none⟩), .pointer (some ⟨w.heap.size, 0, none⟩), .int .u64 150] 148)).cell? ⟨b, 1, none⟩ = some (.int .i64 n) := by
    rw [World.cell?_alloc_lt _ _ ⟨b, 1, none⟩ (by simp only [World.size_alloc]; omega), World.cell?_alloc_lt _ _ ⟨b, 1, none⟩ (by simp only [World.size_alloc]; omega), World.cell?_alloc_lt _ _ ⟨b, 1, none⟩ hbl]; exact hb1
  have el := asElemV ⟨w.heap.size, 0, none⟩ ⟨t, 0, none⟩ (((w.alloc (.cells #[.pointer (some ⟨t, 0, none⟩)] 117)).alloc (.cells #[.pointer (some ⟨1, 117, none⟩), .pointer (some ⟨w.heap.size, 0, none⟩), .int .u64 150] 148)).alloc (.cells #[.pointer (some ⟨1, 117, none⟩), .pointer (some ⟨w.heap.size, 0, none⟩), .int .u64 150] 148)) (by rw [World.cell?_alloc_lt _ _ ⟨w.heap.size, 0, none⟩ (by simp only [World.size_alloc]; omega)]; simp)
  have st := asSet ⟨t, 0, none⟩ ⟨w.heap.size + 1 + 1 + 1, 0, none⟩ n old ((((w.alloc (.cells #[.pointer (some ⟨t, 0, none⟩)] 117)).alloc (.cells #[.pointer (some ⟨1, 117, none⟩), .pointer (some ⟨w.heap.size, 0, none⟩), .int .u64 150] 148)).alloc (.cells #[.pointer (some ⟨1, 117, none⟩), .pointer (some ⟨w.heap.size, 0, none⟩), .int .u64 150] 148)).alloc (.cells #[.int .i64 n] 35))
    (by rw [World.cell?_alloc_at _ _ _ _ (by simp)]; rfl)
    (by rw [World.cell?_alloc_lt _ _ ⟨t, 0, none⟩ (by simp only [World.size_alloc]; omega), World.cell?_alloc_lt _ _ ⟨t, 0, none⟩ (by simp only [World.size_alloc]; omega), World.cell?_alloc_lt _ _ ⟨t, 0, none⟩ (by simp only [World.size_alloc]; omega), World.cell?_alloc_lt _ _ ⟨t, 0, none⟩ htl]; exact ht0)
    (by rw [World.frozen?_alloc_old _ _ ⟨t, 0, none⟩ (by simp only [World.size_alloc]; omega), World.frozen?_alloc_old _ _ ⟨t, 0, none⟩ (by simp only [World.size_alloc]; omega), World.frozen?_alloc_old _ _ ⟨t, 0, none⟩ (by simp only [World.size_alloc]; omega), World.frozen?_alloc_old _ _ ⟨t, 0, none⟩ (Nat.ne_of_lt htl)]; exact hf0)
  go_enter Tryz.func70, Tryz.ntmps70
  go_wp2
  refine wp_loop_rounds 2 ?_
  iterate 2 (rw [rounds_succ]; go_wp2)
  go_ret
  exact ⟨rfl, rfl⟩

theorem isNoIs (v : Value) (xT : TypeId) (w : World) : (Instr.typeAssert (.iface 201 v) xT 180 true).run Tryz.prog w = .ok (.tuple #[.nilIface, .bool false]) w := run_typeAssert_lacksB Tryz.underlying180 (by kernel_rfl) (by kernel_rfl) v xT w
theorem eqOther (v : Value) (b : Int) (w : World) : (binOp .eql 71 (.iface 201 v) (.iface 35 (.int .i64 b))).run Tryz.prog w = .ok (.bool false) w := by kernel_rfl

set_option maxRecDepth 100000 in
set_option maxHeartbeats 4000000 in
/-- errors.Is(&error{.., n}, m): whether n is m. -/
theorem is_any (b : Nat) (n m : Int) (w : World) (hb1 : w.cell? ⟨b, 1, none⟩ = some (.int .i64 n)) :
    Calls Tryz.prog 69 #[.iface 201 (.pointer (some ⟨b, 0, none⟩)), .iface 35 (.int .i64 m)] w fun ev w' => ev = .returned (.bool (n == m)) ∧ w = w' := by
  have f6 := isMethodComparable
  have f7 := isComparableE
  have f8 := isNoIsE
  have f9 := isNoUnwrapE
  have f10 := isNoUnwrapsE
  have f11 := eqErrno
  have f12 := asTypeOfE
  have f16 := isNoIs
  have f17 := asHasUnwrap
  have f18 := asMethodUnwrap
  have f19 := eqOther
  by_cases hnm : n = m
  · subst hnm
    go_enter Tryz.func69, Tryz.ntmps69
    go_wp2
    refine wp_loop_rounds 2 ?_
    iterate 2 (rw [rounds_succ]; go_wp2)
    go_ret
    exact ⟨by simp, rfl⟩
  · have d1 : (n == m) = false := beq_eq_false_iff_ne.2 hnm
    have D1 := Lib.hid d1
    go_enter Tryz.func69, Tryz.ntmps69
    go_wp2
    refine wp_loop_rounds 2 ?_
    iterate 2 (rw [rounds_succ]; go_wp2)
    go_ret
    exact ⟨by rw [D1.out]; rfl, rfl⟩
end Go.Proofs.YtbpkckahonmpkaaGreatDoor.ErFi
namespace Go.Proofs.YtbpkckahonmpkaaGreatDoor
open Go.RowKit

theorem eqNilE (b : Int) (w : World) : (binOp .eql 71 .nilIface (.iface 35 (.int .i64 b))).run Tryz.prog w = .ok (.bool false) w := by kernel_rfl
/-- errors.Is(nil, m): no. -/
theorem is_nil (m : Int) (w : World) :
    Calls Tryz.prog 69 #[.nilIface, .iface 35 (.int .i64 m)] w fun ev w' => ev = .returned (.bool false) ∧ w = w' := by
  have f1 := eqNilE
  go_enter Tryz.func69, Tryz.ntmps69
  go_wp2_with fail
  go_ret
  exact ⟨rfl, rfl⟩
theorem is_stop (b : Nat) (w : World) (hb : w.cell? ⟨b, 1, none⟩ = some (.int .i64 70)) :
    Calls Tryz.prog 69 #[.iface 201 (.pointer (some ⟨b, 0, none⟩)), .iface 35 (.int .i64 70)] w fun ev w' => ev = .returned (.bool true) ∧ w = w' :=
  ErFi.is_any b 70 70 w hb

theorem Only.then_b {S : Nat → Prop} {a b w : World} {B : Nat} (h : Only S a b) (k : Below B b w) (hB : a.heap.size ≤ B) : Only S a w :=
  ⟨k.os.trans h.os, k.tape.trans h.tape, k.output.trans h.output, Nat.le_trans h.size k.size, fun i hi hn => (k.block i (by omega)).trans (h.block i hi hn)⟩
/-- What a reading that went well leaves: the reader's place; what was read, in its variable. -/
def OneOk (g bx : Nat) (T : TypeId) (s : ByteArray) (j : Nat) (v : Value) (W w' : World) : Prop :=
  RdB w' g s j false ∧ Blk w' bx T #[v] ∧ Only (fun x => x = g ∨ x = bx) W w'

set_option maxRecDepth 100000 in
set_option maxHeartbeats 400000 in
theorem num1_ok (g b4 b5 bx : Nat) (s : ByteArray) (i : Nat) (lo hi : Int) (n k : Nat) (v0 : Value) (w : World) (h : RdB w g s i false) (h4 : Blk w b4 3 #[.int .i64 lo]) (h5 : Blk w b5 3 #[.int .i64 hi]) (hx : Blk w bx 3 #[v0])
    (hg : HasET w) (hs : s.size ≤ 1000000) (hat : i ≤ s.size) (hd : dec ((lb s).drop i) = some (n, k)) (hr : lo ≤ (n : Int) ∧ (n : Int) ≤ hi) :
    Calls Tryz.prog 135 #[.pointer (some ⟨g, 0, none⟩), .pointer (some ⟨b4, 0, none⟩), .pointer (some ⟨b5, 0, none⟩), .pointer (some ⟨bx, 0, none⟩)] w fun e w' => e = .returned (.tuple #[]) ∧ OneOk g bx 3 s (i + k) (.int .i64 n) w w' := by
  have HN := Lib.hid (number_ok g s i false lo hi n k w h hg hs hat hd hr)
  have x4 := h4.cell 0
  have x5 := h5.cell 0
  have hne : ¬ bx = g := fun e => (h.ne_ hx (by decide)) e.symm
  have HX := Lib.hid hx
  clear h h4 h5 hx hd hr hg
  go_enter Tryz.func135, Tryz.ntmps135
  go_wp2_with fail
  refine HN.out.mono ?_
  rintro e w1 ⟨rfl, k1, o1⟩
  have kx := o1.blk HX.out hne
  have z1 := kx.cell 0
  have z2 := kx.frozen 0
  have K1 := Lib.hid k1
  have O1 := Lib.hid o1
  have KX := Lib.hid kx
  clear k1 o1 kx
  go_wp2_with fail
  go_end0
  exact ⟨rfl, K1.out.far (fun e => hne e.symm) _, KX.out.set_ 0 _, (O1.out.mono (fun x _ hx => .inl hx)).set (.inl (.inr rfl)) _⟩

set_option maxRecDepth 100000 in
set_option maxHeartbeats 400000 in
theorem num1_no (g b4 b5 bx : Nat) (s : ByteArray) (i : Nat) (lo hi : Int) (w : World) (h : RdB w g s i false) (h4 : Blk w b4 3 #[.int .i64 lo]) (h5 : Blk w b5 3 #[.int .i64 hi])
    (hg : HasET w) (hs : s.size ≤ 1000000) (hat : i ≤ s.size) (hno : dec ((lb s).drop i) = none ∨ ∃ n k, dec ((lb s).drop i) = some (n, k) ∧ ¬ (lo ≤ (n : Int) ∧ (n : Int) ≤ hi)) :
    Calls Tryz.prog 135 #[.pointer (some ⟨g, 0, none⟩), .pointer (some ⟨b4, 0, none⟩), .pointer (some ⟨b5, 0, none⟩), .pointer (some ⟨bx, 0, none⟩)] w (PanPost w) := by
  have HN := Lib.hid (number_no g s i false lo hi w h hg hs hat hno)
  have x4 := h4.cell 0
  have x5 := h5.cell 0
  clear h h4 h5 hno hg
  go_enter Tryz.func135, Tryz.ntmps135
  go_wp2_with fail
  refine HN.out.mono ?_
  rintro e w1 ⟨b, rfl, h1, h2, h3⟩
  exact ⟨rfl, b, rfl, h1, h2, h3⟩

theorem cf_num1 (args : Array Value) (W : World) : (callFunc 135 args).run Tryz.prog W = .ok (.enter 135 args) W := by kernel_rfl

theorem rdNum_bad (l : List UInt8) (i : Nat) (lo hi : Int) : rdNum l i true lo hi = (0, i, true) := by unfold rdNum; rw [if_pos rfl]
theorem rdNum_cases (l : List UInt8) (i : Nat) (lo hi : Int) :
    (∃ n k : Nat, dec (l.drop i) = some (n, k) ∧ (lo ≤ (n : Int) ∧ (n : Int) ≤ hi) ∧ rdNum l i false lo hi = ((n : Int), i + k, false)) ∨
    ((dec (l.drop i) = none ∨ ∃ n k, dec (l.drop i) = some (n, k) ∧ ¬ (lo ≤ (n : Int) ∧ (n : Int) ≤ hi)) ∧ rdNum l i false lo hi = (0, i, true)) := by
  unfold rdNum
  simp only [Bool.false_eq_true, if_false]
  cases hd : dec (l.drop i) with
  | none => exact .inr ⟨.inl rfl, rfl⟩
  | some z =>
    obtain ⟨n, k⟩ := z
    by_cases hr : lo ≤ (n : Int) ∧ (n : Int) ≤ hi
    · exact .inl ⟨n, k, rfl, hr, by simp only [if_pos hr]⟩
    · exact .inr ⟨.inr ⟨n, k, rfl, hr⟩, by simp only [if_neg hr]⟩

/-- Behind a field that was not read: nothing told; the reader is stopped where it was. -/
theorem num_end (g : Nat) (s : ByteArray) (i : Nat) (lo hi : Int) (bad : Bool) (w : World) (h : RdB w g s i bad)
    (hf : ∀ W b4 b5 bx, RdB W g s i bad → Blk W b4 3 #[.int .i64 lo] → Blk W b5 3 #[.int .i64 hi] → Below w.heap.size w W →
      Calls Tryz.prog 134 #[.pointer (some ⟨g, 0, none⟩), .func (.func 135) #[] #[.pointer (some ⟨b4, 0, none⟩), .pointer (some ⟨b5, 0, none⟩), .pointer (some ⟨bx, 0, none⟩)]] W (FieldNo g s i W)) :
    Calls Tryz.prog 119 #[.pointer (some ⟨g, 0, none⟩), .int .i64 lo, .int .i64 hi] w (RdPost g s (.int .i64 0) i true w) := by
  have hmf : ∀ (fn : Fn) (first cap : Array Value) (w : World), (Instr.makeFunc fn first cap).run Tryz.prog w = .ok (.func fn first cap) w := fun _ _ _ _ => rfl
  have a0 := blk_new w 3 #[.int .i64 lo] rfl
  have a1 := blk_new (w.alloc (.cells #[.int .i64 lo] 3)) 3 #[.int .i64 hi] (g := w.heap.size + 1) (by simp)
  have l3 := (((Below.refl w.heap.size w).alloc (Nat.le_refl _) (.cells #[.int .i64 lo] 3)).alloc (by simp) (.cells #[.int .i64 hi] 3)).alloc (by simp; omega) (.cells #[.int .i64 0] 3)
  have HF := Lib.hid (hf _ w.heap.size (w.heap.size + 1) (w.heap.size + 1 + 1) (((h.alloc _).alloc _).alloc _) ((a0.alloc _).alloc _) (a1.alloc _) l3)
  have L3 := Lib.hid l3
  clear h hf a0 a1 l3
  go_enter Tryz.func119, Tryz.ntmps119
  go_wp2_with fail
  refine HF.out.mono ?_
  rintro e w1 ⟨b, rfl, hb, k1, o1⟩
  have O1 := Lib.hid ((Only.of_below (fun x => x = g) L3.out).trans o1)
  have K1 := Lib.hid k1
  have HB := Lib.hid (is_stop b w1 hb)
  clear hb k1 o1
  go_wp2_with fail
  refine HB.out.mono ?_
  rintro e w2 ⟨rfl, rfl⟩
  go_wp2_with fail
  go_ret
  exact ⟨rfl, K1.out, O1.out⟩

set_option maxHeartbeats 400000 in
theorem RNum_any (g : Nat) (s : ByteArray) (i : Nat) (bad : Bool) (lo hi : Int) (w : World) (h : RdB w g s i bad) (hg : HasET w) (hs : s.size ≤ 1000000) (hat : i ≤ s.size) :
    Calls Tryz.prog 119 #[.pointer (some ⟨g, 0, none⟩), .int .i64 lo, .int .i64 hi] w (RdPost g s (.int .i64 (rdNum (lb s) i bad lo hi).1) (rdNum (lb s) i bad lo hi).2.1 (rdNum (lb s) i bad lo hi).2.2 w) := by
  cases bad
  · rcases rdNum_cases (lb s) i lo hi with ⟨n, k, hd, hr, he⟩ | ⟨hno, he⟩
    · rw [he]
      have hmf : ∀ (fn : Fn) (first cap : Array Value) (w : World), (Instr.makeFunc fn first cap).run Tryz.prog w = .ok (.func fn first cap) w := fun _ _ _ _ => rfl
      have a0 := blk_new w 3 #[.int .i64 lo] rfl
      have a1 := blk_new (w.alloc (.cells #[.int .i64 lo] 3)) 3 #[.int .i64 hi] (g := w.heap.size + 1) (by simp)
      have a2 := blk_new ((w.alloc (.cells #[.int .i64 lo] 3)).alloc (.cells #[.int .i64 hi] 3)) 3 #[.int .i64 0] (g := w.heap.size + 1 + 1) (by simp)
      have l3 := (((Below.refl w.heap.size w).alloc (Nat.le_refl _) (.cells #[.int .i64 lo] 3)).alloc (by simp) (.cells #[.int .i64 hi] 3)).alloc (by simp; omega) (.cells #[.int .i64 0] 3)
      have hl := h.lt
      have HF := Lib.hid (field_ok g s i 135 #[.pointer (some ⟨w.heap.size, 0, none⟩), .pointer (some ⟨w.heap.size + 1, 0, none⟩), .pointer (some ⟨w.heap.size + 1 + 1, 0, none⟩)] (fun x => x = g ∨ x = w.heap.size + 1 + 1) (OneOk g (w.heap.size + 1 + 1) 3 s (i + k) (.int .i64 n)) _ (((h.alloc _).alloc _).alloc _) cf_num1 (fun W w' hq => hq.2.2) (fun x hx => by simp; omega)
        (fun W hW bW => num1_ok g _ _ _ s i lo hi n k _ W hW (((a0.alloc _).alloc _).below bW ((a0.alloc _).alloc _).lt) ((a1.alloc _).below bW (a1.alloc _).lt) (a2.below bW a2.lt) ((hg.up (l3.mono (Nat.le_refl _))).up bW) hs hat hd hr))
      have L3 := Lib.hid l3
      clear h hg a0 a1 a2 l3 hd he hr
      go_enter Tryz.func119, Tryz.ntmps119
      go_wp2_with fail
      refine HF.out.mono ?_
      rintro e w1 ⟨rfl, W, W1, bW, ⟨k1, k2, o1⟩, b1⟩
      simp only [World.size_alloc] at bW b1
      have k3 := k2.below b1 (by omega)
      have k4 := k1.below b1 (by omega)
      have z1 := k3.cell 0
      have O1 := Lib.hid (((((Only.of_below (fun x => x = g) L3.out).then_below (by simpa using bW)).step o1 (fun x hx hs => by omega))).then_b b1 (by omega))
      have K4 := Lib.hid k4
      clear k1 k2 k3 k4 o1 b1 bW
      go_wp2_with fail
      refine (is_nil 70 _).mono ?_
      rintro e w2 ⟨rfl, rfl⟩
      go_wp2_with fail
      go_ret
      exact ⟨rfl, K4.out, O1.out⟩
    · rw [he]
      exact num_end g s i lo hi false w h (fun W b4 b5 bx hW h4 h5 bW => field_no g s i _ _ W hW cf_num1 (fun W' hW' bW' => (num1_no g b4 b5 bx s i lo hi W' hW' (h4.below bW' h4.lt) (h5.below bW' h5.lt) ((hg.up bW).up bW') hs hat hno).mono fun e w' hp => ⟨W', Only.refl _ _, ⟨i, hW'⟩, hp⟩))
  · rw [rdNum_bad]
    exact num_end g s i lo hi true w h (fun W b4 b5 bx hW _ _ _ => field_bad g s i _ _ W hW)
end Go.Proofs.YtbpkckahonmpkaaGreatDoor
namespace Go.Proofs.YtbpkckahonmpkaaGreatDoor
open Go.RowKit

/-- A closure that does not read: nothing but the reader has turned, then a stop. -/
def StopPost (g : Nat) (s : ByteArray) (w : World) (e : Ending) (w' : World) : Prop := ∃ W', Only (fun x => x = g) w W' ∧ (∃ j, RdB W' g s j false) ∧ PanPost W' e w'

end Go.Proofs.YtbpkckahonmpkaaGreatDoor
