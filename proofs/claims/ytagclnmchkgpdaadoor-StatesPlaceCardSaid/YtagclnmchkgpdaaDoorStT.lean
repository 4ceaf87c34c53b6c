/-
  Layer 18: states.Place.
-/
import Derived.Test.YtagclnmchkgpdaaDoorStQ
namespace Go.Proofs.YtagclnmchkgpdaaDoor
open Go.RowKit

noncomputable def placeE (c : Co) (l : List Int) : Int := if mayB c = false ∨ partsB l = false then 2 else if c.st = 0 ∧ 0 < l.length then 180 else 0
noncomputable def placeC (c : Co) (l : List Int) : Co :=
  if ¬ placeE c l = 0 then Co0
  else if c.st = 3 ∨ c.st = 4 then { c with ps := l }
  else if c.st = 2 then (if l.length = 0 ∧ c.qs.length = 0 then { c with ps := l, st := 1, ag := 0 } else { c with ps := l })
  else if 0 < l.length then { c with ps := l, st := 2 } else { c with ps := l }

/-- A slice with an element lies in another block. -/
def OffB (b n : Nat) (A : Option Addr) : Prop := 0 < n → ∀ ad, A = some ad → ad.block ≠ b
theorem Reads.off {w : World} {B size n b o : Nat} {A : Option Addr} {xs : List Value} (h : Reads w B size A n xs) (hf : OffB b n A) (u : Value) : Reads (w.setCell ⟨b, o, none⟩ u) B size A n xs :=
  ⟨h.1, fun hn => by
    obtain ⟨ad, e, hb, hc⟩ := h.2 hn
    refine ⟨ad, e, hb, fun j v hv => ?_⟩
    rw [World.cell?_setCell_other w ⟨b, o, none⟩ _ u (fun e' => by have := congrArg Addr.block e'; rw [block_of_add] at this; exact hf hn ad e this.symm)]
    exact hc j v hv⟩
theorem NewAt.off {lo n b : Nat} {A : Option Addr} (h : NewAt lo n A) (hb : b < lo) : OffB b n A := fun hn ad e => by
  obtain ⟨ad', e', h'⟩ := h hn
  rw [e] at e'
  injection e' with e'
  subst e'
  omega
theorem Reads.offB {w : World} {B size n b : Nat} {A : Option Addr} {xs : List Value} (h : Reads w B size A n xs) (hb : B ≤ b) : OffB b n A := fun hn ad e => by
  obtain ⟨ad', e', h', _⟩ := h.2 hn
  rw [e] at e'
  injection e' with e'
  subst e'
  omega

set_option maxRecDepth 100000 in
set_option maxHeartbeats 1000000 in
theorem Place_a (c : Co) (A1 D1 : Option Addr) (c1 e1 : Nat) (l : List Int) (AL : Option Addr) (cl : Nat) (w : World) (h1 : CoR w w.heap.size c A1 D1) (hr : Reads w w.heap.size 1 AL l.length (cellsI .i64 l)) (hl : l.length ≤ 1000) (m1 : mayB c = false) :
    Calls Tryd.prog 20 #[(.agg #[.int .i8 c.st, .int .i64 c.pid, .int .i64 c.ep, .int .i64 c.tm, .int .i64 c.th, .slice A1 c.ps.length c1, .slice D1 c.qs.length e1, .int .i64 c.ag]), .slice AL l.length cl] w (MvPost (placeC c l) (placeE c l) w) := by
  have he : placeE c l = 2 := by unfold placeE; rw [if_pos (.inl m1)]
  have HE := Lib.hid he
  have hco : placeC c l = Co0 := by unfold placeC; rw [if_pos (by rw [he]; decide)]
  have HCO := Lib.hid hco
  have h2 := (h1.al (.cells #[.int .i8 c.st, .int .i64 c.pid, .int .i64 c.ep, .int .i64 c.tm, .int .i64 c.th, .slice A1 c.ps.length c1, .slice D1 c.qs.length e1, .int .i64 c.ag] 26)).al (.cells #[.int .i8 0, .int .i64 0, .int .i64 0, .int .i64 0, .int .i64 0, .slice none 0 0, .slice none 0 0, .int .i64 0] 26)
  have hm := May_any c A1 D1 c1 e1 _ _ h2 (Nat.le_refl _)
  rw [m1] at hm
  have HM := Lib.hid hm
  have HB := Lib.hid (bal (bal (Below.refl w.heap.size w) (.cells #[.int .i8 c.st, .int .i64 c.pid, .int .i64 c.ep, .int .i64 c.tm, .int .i64 c.th, .slice A1 c.ps.length c1, .slice D1 c.qs.length e1, .int .i64 c.ag] 26)) (.cells #[.int .i8 0, .int .i64 0, .int .i64 0, .int .i64 0, .int .i64 0, .slice none 0 0, .slice none 0 0, .int .i64 0] 26))
  have K1 := Lib.hid ((Blk.new w 26 #[.int .i8 c.st, .int .i64 c.pid, .int .i64 c.ep, .int .i64 c.tm, .int .i64 c.th, .slice A1 c.ps.length c1, .slice D1 c.qs.length e1, .int .i64 c.ag]).alloc (.cells #[.int .i8 0, .int .i64 0, .int .i64 0, .int .i64 0, .int .i64 0, .slice none 0 0, .slice none 0 0, .int .i64 0] 26))
  have kk := Blk.new (w.alloc (.cells #[.int .i8 c.st, .int .i64 c.pid, .int .i64 c.ep, .int .i64 c.tm, .int .i64 c.th, .slice A1 c.ps.length c1, .slice D1 c.qs.length e1, .int .i64 c.ag] 26)) 26 #[.int .i8 0, .int .i64 0, .int .i64 0, .int .i64 0, .int .i64 0, .slice none 0 0, .slice none 0 0, .int .i64 0]
  rw [World.size_alloc] at kk
  have K2 := Lib.hid kk
  have HR := Lib.hid hr
  have H1 := Lib.hid h1
  clear h2 hm kk h1 hr m1 he hco
  go_enter Tryd.func20, Tryd.ntmps20
  go_wp2_with fail
  refine HM.out.mono ?_
  rintro e w2 ⟨rfl, b2⟩
  have hz2 := b2.size
  simp only [World.size_alloc] at hz2
  have bf := btrans HB.out b2
  have k6 := K2.out.below b2 (by simp only [World.size_alloc]; omega)
  have y0 := k6.cell 0
  have z0 := k6.frozen 0
  have y1 := k6.cell 1
  have z1 := k6.frozen 1
  have y2 := k6.cell 2
  have z2 := k6.frozen 2
  have y3 := k6.cell 3
  have z3 := k6.frozen 3
  have y4 := k6.cell 4
  have z4 := k6.frozen 4
  have y5 := k6.cell 5
  have z5 := k6.frozen 5
  have y6 := k6.cell 6
  have z6 := k6.frozen 6
  have y7 := k6.cell 7
  have z7 := k6.frozen 7
  go_wp2_with fail
  refine bodyPost_ret (v := .tuple #[.agg #[.int .i8 0, .int .i64 0, .int .i64 0, .int .i64 0, .int .i64 0, .slice none 0 0, .slice none 0 0, .int .i64 0], .int .i64 2]) (by simp [results, Tryd.results20, go_sem, y0, y1, y2, y3, y4, y5, y6, y7]) rfl ?_
  rw [HE.out, HCO.out]
  exact ⟨none, none, 0, 0, rfl, CoR.zero _ _ _ _, (bset (bset (bset (bset (bset (bset (bset (bset bf (by omega) _) (by omega) _) (by omega) _) (by omega) _) (by omega) _) (by omega) _) (by omega) _) (by omega) _), NewAt.none_, NewAt.none_⟩

set_option maxRecDepth 100000 in
set_option maxHeartbeats 1000000 in
theorem Place_b (c : Co) (A1 D1 : Option Addr) (c1 e1 : Nat) (l : List Int) (AL : Option Addr) (cl : Nat) (w : World) (h1 : CoR w w.heap.size c A1 D1) (hr : Reads w w.heap.size 1 AL l.length (cellsI .i64 l)) (hl : l.length ≤ 1000) (m1 : mayB c = true) (m2 : partsB l = false) :
    Calls Tryd.prog 20 #[(.agg #[.int .i8 c.st, .int .i64 c.pid, .int .i64 c.ep, .int .i64 c.tm, .int .i64 c.th, .slice A1 c.ps.length c1, .slice D1 c.qs.length e1, .int .i64 c.ag]), .slice AL l.length cl] w (MvPost (placeC c l) (placeE c l) w) := by
  have he : placeE c l = 2 := by unfold placeE; rw [if_pos (.inr m2)]
  have HE := Lib.hid he
  have hco : placeC c l = Co0 := by unfold placeC; rw [if_pos (by rw [he]; decide)]
  have HCO := Lib.hid hco
  have P1 := Lib.hid m2
  have h2 := (h1.al (.cells #[.int .i8 c.st, .int .i64 c.pid, .int .i64 c.ep, .int .i64 c.tm, .int .i64 c.th, .slice A1 c.ps.length c1, .slice D1 c.qs.length e1, .int .i64 c.ag] 26)).al (.cells #[.int .i8 0, .int .i64 0, .int .i64 0, .int .i64 0, .int .i64 0, .slice none 0 0, .slice none 0 0, .int .i64 0] 26)
  have hm := May_any c A1 D1 c1 e1 _ _ h2 (Nat.le_refl _)
  rw [m1] at hm
  have HM := Lib.hid hm
  have HB := Lib.hid (bal (bal (Below.refl w.heap.size w) (.cells #[.int .i8 c.st, .int .i64 c.pid, .int .i64 c.ep, .int .i64 c.tm, .int .i64 c.th, .slice A1 c.ps.length c1, .slice D1 c.qs.length e1, .int .i64 c.ag] 26)) (.cells #[.int .i8 0, .int .i64 0, .int .i64 0, .int .i64 0, .int .i64 0, .slice none 0 0, .slice none 0 0, .int .i64 0] 26))
  have K1 := Lib.hid ((Blk.new w 26 #[.int .i8 c.st, .int .i64 c.pid, .int .i64 c.ep, .int .i64 c.tm, .int .i64 c.th, .slice A1 c.ps.length c1, .slice D1 c.qs.length e1, .int .i64 c.ag]).alloc (.cells #[.int .i8 0, .int .i64 0, .int .i64 0, .int .i64 0, .int .i64 0, .slice none 0 0, .slice none 0 0, .int .i64 0] 26))
  have kk := Blk.new (w.alloc (.cells #[.int .i8 c.st, .int .i64 c.pid, .int .i64 c.ep, .int .i64 c.tm, .int .i64 c.th, .slice A1 c.ps.length c1, .slice D1 c.qs.length e1, .int .i64 c.ag] 26)) 26 #[.int .i8 0, .int .i64 0, .int .i64 0, .int .i64 0, .int .i64 0, .slice none 0 0, .slice none 0 0, .int .i64 0]
  rw [World.size_alloc] at kk
  have K2 := Lib.hid kk
  have HR := Lib.hid hr
  have H1 := Lib.hid h1
  clear h2 hm kk h1 hr m1 m2 he hco
  go_enter Tryd.func20, Tryd.ntmps20
  go_wp2_with fail
  refine HM.out.mono ?_
  rintro e w2 ⟨rfl, b2⟩
  have hz2 := b2.size
  simp only [World.size_alloc] at hz2
  have bf := btrans HB.out b2
  have hap := areParts_any AL l cl w.heap.size w2 (HR.out.below bf) (by omega)
  rw [P1.out] at hap
  have HAP := Lib.hid hap
  clear hap
  go_wp2_with fail
  refine HAP.out.mono ?_
  rintro e w3 ⟨rfl, q, rfl⟩
  have bq := below_drewN bf q
  have k5 := (K1.out.below b2 (by simp only [World.size_alloc]; omega)).drewN q
  have k6 := (K2.out.below b2 (by simp only [World.size_alloc]; omega)).drewN q
  have hz3 : w.heap.size + 1 + 1 ≤ (w2.drewN q).heap.size := hz2
  generalize w2.drewN q = w3 at *
  have y0 := k6.cell 0
  have z0 := k6.frozen 0
  have y1 := k6.cell 1
  have z1 := k6.frozen 1
  have y2 := k6.cell 2
  have z2 := k6.frozen 2
  have y3 := k6.cell 3
  have z3 := k6.frozen 3
  have y4 := k6.cell 4
  have z4 := k6.frozen 4
  have y5 := k6.cell 5
  have z5 := k6.frozen 5
  have y6 := k6.cell 6
  have z6 := k6.frozen 6
  have y7 := k6.cell 7
  have z7 := k6.frozen 7
  go_wp2_with fail
  refine bodyPost_ret (v := .tuple #[.agg #[.int .i8 0, .int .i64 0, .int .i64 0, .int .i64 0, .int .i64 0, .slice none 0 0, .slice none 0 0, .int .i64 0], .int .i64 2]) (by simp [results, Tryd.results20, go_sem, y0, y1, y2, y3, y4, y5, y6, y7]) rfl ?_
  rw [HE.out, HCO.out]
  exact ⟨none, none, 0, 0, rfl, CoR.zero _ _ _ _, (bset (bset (bset (bset (bset (bset (bset (bset bq (by omega) _) (by omega) _) (by omega) _) (by omega) _) (by omega) _) (by omega) _) (by omega) _) (by omega) _), NewAt.none_, NewAt.none_⟩

set_option maxRecDepth 100000 in
set_option maxHeartbeats 1000000 in
theorem Place_c (c : Co) (A1 D1 : Option Addr) (c1 e1 : Nat) (l : List Int) (AL : Option Addr) (cl : Nat) (w : World) (h1 : CoR w w.heap.size c A1 D1) (hr : Reads w w.heap.size 1 AL l.length (cellsI .i64 l)) (hl : l.length ≤ 1000) (m1 : mayB c = true) (m2 : partsB l = true) (m3 : c.st = 0) (m4 : 0 < l.length) :
    Calls Tryd.prog 20 #[(.agg #[.int .i8 c.st, .int .i64 c.pid, .int .i64 c.ep, .int .i64 c.tm, .int .i64 c.th, .slice A1 c.ps.length c1, .slice D1 c.qs.length e1, .int .i64 c.ag]), .slice AL l.length cl] w (MvPost (placeC c l) (placeE c l) w) := by
  have he : placeE c l = 180 := by unfold placeE; rw [if_neg (by simp [m1, m2]), if_pos ⟨m3, m4⟩]
  have HE := Lib.hid he
  have hco : placeC c l = Co0 := by unfold placeC; rw [if_pos (by rw [he]; decide)]
  have HCO := Lib.hid hco
  have P1 := Lib.hid m2
  have d1 := eqb_true m3
  have d2 : decide (0 < l.length) = true := decide_eq_true m4
  have d3 : decide ((0 : Int) < (l.length : Int)) = true := decide_eq_true (by omega)
  have h2 := (h1.al (.cells #[.int .i8 c.st, .int .i64 c.pid, .int .i64 c.ep, .int .i64 c.tm, .int .i64 c.th, .slice A1 c.ps.length c1, .slice D1 c.qs.length e1, .int .i64 c.ag] 26)).al (.cells #[.int .i8 0, .int .i64 0, .int .i64 0, .int .i64 0, .int .i64 0, .slice none 0 0, .slice none 0 0, .int .i64 0] 26)
  have hm := May_any c A1 D1 c1 e1 _ _ h2 (Nat.le_refl _)
  rw [m1] at hm
  have HM := Lib.hid hm
  have HB := Lib.hid (bal (bal (Below.refl w.heap.size w) (.cells #[.int .i8 c.st, .int .i64 c.pid, .int .i64 c.ep, .int .i64 c.tm, .int .i64 c.th, .slice A1 c.ps.length c1, .slice D1 c.qs.length e1, .int .i64 c.ag] 26)) (.cells #[.int .i8 0, .int .i64 0, .int .i64 0, .int .i64 0, .int .i64 0, .slice none 0 0, .slice none 0 0, .int .i64 0] 26))
  have K1 := Lib.hid ((Blk.new w 26 #[.int .i8 c.st, .int .i64 c.pid, .int .i64 c.ep, .int .i64 c.tm, .int .i64 c.th, .slice A1 c.ps.length c1, .slice D1 c.qs.length e1, .int .i64 c.ag]).alloc (.cells #[.int .i8 0, .int .i64 0, .int .i64 0, .int .i64 0, .int .i64 0, .slice none 0 0, .slice none 0 0, .int .i64 0] 26))
  have kk := Blk.new (w.alloc (.cells #[.int .i8 c.st, .int .i64 c.pid, .int .i64 c.ep, .int .i64 c.tm, .int .i64 c.th, .slice A1 c.ps.length c1, .slice D1 c.qs.length e1, .int .i64 c.ag] 26)) 26 #[.int .i8 0, .int .i64 0, .int .i64 0, .int .i64 0, .int .i64 0, .slice none 0 0, .slice none 0 0, .int .i64 0]
  rw [World.size_alloc] at kk
  have K2 := Lib.hid kk
  have HR := Lib.hid hr
  have H1 := Lib.hid h1
  clear h2 hm kk h1 hr m1 m2 m3 he hco
  go_enter Tryd.func20, Tryd.ntmps20
  go_wp2_with fail
  refine HM.out.mono ?_
  rintro e w2 ⟨rfl, b2⟩
  have hz2 := b2.size
  simp only [World.size_alloc] at hz2
  have bf := btrans HB.out b2
  have hap := areParts_any AL l cl w.heap.size w2 (HR.out.below bf) (by omega)
  rw [P1.out] at hap
  have HAP := Lib.hid hap
  clear hap
  go_wp2_with fail
  refine HAP.out.mono ?_
  rintro e w3 ⟨rfl, q, rfl⟩
  have bq := below_drewN bf q
  have k5 := (K1.out.below b2 (by simp only [World.size_alloc]; omega)).drewN q
  have k6 := (K2.out.below b2 (by simp only [World.size_alloc]; omega)).drewN q
  have hz3 : w.heap.size + 1 + 1 ≤ (w2.drewN q).heap.size := hz2
  generalize w2.drewN q = w3 at *
  have x0 := k5.cell 0
  have y0 := k6.cell 0
  have z0 := k6.frozen 0
  have y1 := k6.cell 1
  have z1 := k6.frozen 1
  have y2 := k6.cell 2
  have z2 := k6.frozen 2
  have y3 := k6.cell 3
  have z3 := k6.frozen 3
  have y4 := k6.cell 4
  have z4 := k6.frozen 4
  have y5 := k6.cell 5
  have z5 := k6.frozen 5
  have y6 := k6.cell 6
  have z6 := k6.frozen 6
  have y7 := k6.cell 7
  have z7 := k6.frozen 7
  go_wp2_with fail
  refine bodyPost_ret (v := .tuple #[.agg #[.int .i8 0, .int .i64 0, .int .i64 0, .int .i64 0, .int .i64 0, .slice none 0 0, .slice none 0 0, .int .i64 0], .int .i64 180]) (by simp [results, Tryd.results20, go_sem, y0, y1, y2, y3, y4, y5, y6, y7]) rfl ?_
  rw [HE.out, HCO.out]
  exact ⟨none, none, 0, 0, rfl, CoR.zero _ _ _ _, (bset (bset (bset (bset (bset (bset (bset (bset bq (by omega) _) (by omega) _) (by omega) _) (by omega) _) (by omega) _) (by omega) _) (by omega) _) (by omega) _), NewAt.none_, NewAt.none_⟩

set_option maxRecDepth 100000 in
set_option maxHeartbeats 2000000 in
theorem Place_d3 (c : Co) (A1 D1 : Option Addr) (c1 e1 : Nat) (l : List Int) (AL : Option Addr) (cl : Nat) (w : World) (h1 : CoR w w.heap.size c A1 D1) (hr : Reads w w.heap.size 1 AL l.length (cellsI .i64 l)) (hl : l.length ≤ 1000) (m1 : mayB c = true) (m2 : partsB l = true) (m3 : ¬ c.st = 0 ∨ l.length = 0) (m5' : c.st = 3) :
    Calls Tryd.prog 20 #[(.agg #[.int .i8 c.st, .int .i64 c.pid, .int .i64 c.ep, .int .i64 c.tm, .int .i64 c.th, .slice A1 c.ps.length c1, .slice D1 c.qs.length e1, .int .i64 c.ag]), .slice AL l.length cl] w (MvPost (placeC c l) (placeE c l) w) := by
  have m5 : c.st = 3 ∨ c.st = 4 := by omega
  have he : placeE c l = 0 := by unfold placeE; rw [if_neg (by simp [m1, m2]), if_neg (by omega)]
  have hco : placeC c l = { c with ps := l } := by unfold placeC; rw [if_neg (by rw [he]; simp), if_pos m5]
  have HE := Lib.hid he
  have HCO := Lib.hid hco
  have P1 := Lib.hid m2
  obtain ⟨i0, hi, hz0, hz1, hz2'⟩ := info_parts infoI
  have s3 : (c.st == 3) = true := eqb_true (by omega)
  have s4 : (c.st == 4) = false := eqb_false (by omega)
  have s2 : (c.st == 2) = false := eqb_false (by omega)
  have hq2 := h1.2.2.2
  have hst0 : (c.st == 0) = false := eqb_false (by omega)
  have h2 := (h1.al (.cells #[.int .i8 c.st, .int .i64 c.pid, .int .i64 c.ep, .int .i64 c.tm, .int .i64 c.th, .slice A1 c.ps.length c1, .slice D1 c.qs.length e1, .int .i64 c.ag] 26)).al (.cells #[.int .i8 0, .int .i64 0, .int .i64 0, .int .i64 0, .int .i64 0, .slice none 0 0, .slice none 0 0, .int .i64 0] 26)
  have hm := May_any c A1 D1 c1 e1 _ _ h2 (Nat.le_refl _)
  rw [m1] at hm
  have HM := Lib.hid hm
  have HB := Lib.hid (bal (bal (Below.refl w.heap.size w) (.cells #[.int .i8 c.st, .int .i64 c.pid, .int .i64 c.ep, .int .i64 c.tm, .int .i64 c.th, .slice A1 c.ps.length c1, .slice D1 c.qs.length e1, .int .i64 c.ag] 26)) (.cells #[.int .i8 0, .int .i64 0, .int .i64 0, .int .i64 0, .int .i64 0, .slice none 0 0, .slice none 0 0, .int .i64 0] 26))
  have K1 := Lib.hid ((Blk.new w 26 #[.int .i8 c.st, .int .i64 c.pid, .int .i64 c.ep, .int .i64 c.tm, .int .i64 c.th, .slice A1 c.ps.length c1, .slice D1 c.qs.length e1, .int .i64 c.ag]).alloc (.cells #[.int .i8 0, .int .i64 0, .int .i64 0, .int .i64 0, .int .i64 0, .slice none 0 0, .slice none 0 0, .int .i64 0] 26))
  have kk := Blk.new (w.alloc (.cells #[.int .i8 c.st, .int .i64 c.pid, .int .i64 c.ep, .int .i64 c.tm, .int .i64 c.th, .slice A1 c.ps.length c1, .slice D1 c.qs.length e1, .int .i64 c.ag] 26)) 26 #[.int .i8 0, .int .i64 0, .int .i64 0, .int .i64 0, .int .i64 0, .slice none 0 0, .slice none 0 0, .int .i64 0]
  rw [World.size_alloc] at kk
  have K2 := Lib.hid kk
  have HR := Lib.hid hr
  have H1 := Lib.hid h1
  clear h2 hm kk h1 hr m1 m2 m3 he hco m5 m5'
  go_enter Tryd.func20, Tryd.ntmps20
  go_wp2_with fail
  refine HM.out.mono ?_
  rintro e w2 ⟨rfl, b2⟩
  have hz2 := b2.size
  simp only [World.size_alloc] at hz2
  have bf := btrans HB.out b2
  have hap := areParts_any AL l cl w.heap.size w2 (HR.out.below bf) (by omega)
  rw [P1.out] at hap
  have HAP := Lib.hid hap
  clear hap
  go_wp2_with fail
  refine HAP.out.mono ?_
  rintro e w3 ⟨rfl, q, rfl⟩
  have bq := below_drewN bf q
  have k5 := (K1.out.below b2 (by simp only [World.size_alloc]; omega)).drewN q
  have k6 := (K2.out.below b2 (by simp only [World.size_alloc]; omega)).drewN q
  have hz3 : w.heap.size + 1 + 1 ≤ (w2.drewN q).heap.size := hz2
  generalize w2.drewN q = w3 at *
  have own0 := own_any c A1 D1 c1 e1 w3 (H1.out.up bq)
  have HOWN := Lib.hid own0
  clear own0
  have x0 := k5.cell 0
  have x1 := k5.cell 1
  have x2 := k5.cell 2
  have x3 := k5.cell 3
  have x4 := k5.cell 4
  have x5 := k5.cell 5
  have x6 := k5.cell 6
  have x7 := k5.cell 7
  go_wp2_with fail
  refine HOWN.out.mono ?_
  rintro e w4 ⟨A3, D3, c3, e3, rfl, r3, b3, f3, g3⟩
  have bg := btrans bq b3
  have hz4 := b3.size
  have ko := Blk.new w4 26 #[.int .i8 c.st, .int .i64 c.pid, .int .i64 c.ep, .int .i64 c.tm, .int .i64 c.th, .slice A3 c.ps.length c3, .slice D3 c.qs.length e3, .int .i64 c.ag]
  have RL := Lib.hid ((HR.out.below (bal bg (.cells #[.int .i8 c.st, .int .i64 c.pid, .int .i64 c.ep, .int .i64 c.tm, .int .i64 c.th, .slice A3 c.ps.length c3, .slice D3 c.qs.length e3, .int .i64 c.ag] 26))))
  have KO := Lib.hid ko
  have R3 := Lib.hid r3
  clear ko
  go_wp2_with (at_builtin; refine wpList_append_any _ rfl (.const (.slice none 0 0)) (.tmp 27) 23 rfl (w4.heap.size + 1) 3 i0 (.int .i64 0) 1 8 Tryd.underlying23 hi hz0 hz1 hz2' rfl (by decide) (.slice none 0 0) 0 [] rfl (World.ownsRow_nil _ _ _ _) w.heap.size AL l.length cl (cellsI .i64 l) rfl RL.out (cellsI_one _) (by unfold maxLen; omega) (by omega) (by simp) ?_; intro v5 w5 hown5 hg5 hat5; rw [Nat.zero_add, List.nil_append] at hown5; obtain ⟨A5, c5, rfl, hc5⟩ := own_slice hown5; have hgz := hg5.size; rw [World.size_alloc] at hgz; have k7 := ((k5.below b3 (by omega)).alloc (.cells #[.int .i8 c.st, .int .i64 c.pid, .int .i64 c.ep, .int .i64 c.tm, .int .i64 c.th, .slice A3 c.ps.length c3, .slice D3 c.qs.length e3, .int .i64 c.ag] 26)).grown hg5 (by simp [Value.ownBlock]); have k8 := ((k6.below b3 (by omega)).alloc (.cells #[.int .i8 c.st, .int .i64 c.pid, .int .i64 c.ep, .int .i64 c.tm, .int .i64 c.th, .slice A3 c.ps.length c3, .slice D3 c.qs.length e3, .int .i64 c.ag] 26)).grown hg5 (by simp [Value.ownBlock]); have k9 := KO.out.grown hg5 (by simp [Value.ownBlock]); have bh : Below w.heap.size w w5 := (bal bg (.cells #[.int .i8 c.st, .int .i64 c.pid, .int .i64 c.ep, .int .i64 c.tm, .int .i64 c.th, .slice A3 c.ps.length c3, .slice D3 c.qs.length e3, .int .i64 c.ag] 26)).grown hg5 (by have := bg.size; simp; omega) (fun k e => by simp [Value.ownBlock] at e); have rd5 : Reads w5 w4.heap.size 3 D3 c.qs.length (cellsP c.qs) := (R3.out.2.1.alloc (Nat.le_refl _) _).grown hg5 (by simp) (fun k e => by simp [Value.ownBlock] at e); have rp5 := Reads.of_own hown5; have np5 := newAt_of_own hown5; clear x0 x1 x2 x3 x4 x5 x6 x7; have x0 := k7.cell 0; have y0 := k8.cell 0; have z0 := k8.frozen 0; have t0 := k9.cell 0; have s0' := k9.frozen 0; have y1 := k8.cell 1; have z1 := k8.frozen 1; have t1 := k9.cell 1; have s1' := k9.frozen 1; have y2 := k8.cell 2; have z2 := k8.frozen 2; have t2 := k9.cell 2; have s2' := k9.frozen 2; have y3 := k8.cell 3; have z3 := k8.frozen 3; have t3 := k9.cell 3; have s3' := k9.frozen 3; have y4 := k8.cell 4; have z4 := k8.frozen 4; have t4 := k9.cell 4; have s4' := k9.frozen 4; have y5 := k8.cell 5; have z5 := k8.frozen 5; have t5 := k9.cell 5; have s5' := k9.frozen 5; have y6 := k8.cell 6; have z6 := k8.frozen 6; have t6 := k9.cell 6; have s6' := k9.frozen 6; have y7 := k8.cell 7; have z7 := k8.frozen 7; have t7 := k9.cell 7; have s7' := k9.frozen 7; have ne1 : ¬ w.heap.size + 1 = w4.heap.size := (by omega); have ne2 : ¬ w4.heap.size = w.heap.size + 1 := (by omega); have ne3 : ¬ w.heap.size = w4.heap.size := (by omega); have ne4 : ¬ w4.heap.size = w.heap.size := (by omega); clear hown5 hg5 hat5)
  refine bodyPost_ret (v := .tuple #[.agg #[.int .i8 c.st, .int .i64 c.pid, .int .i64 c.ep, .int .i64 c.tm, .int .i64 c.th, .slice A5 l.length c5, .slice D3 c.qs.length e3, .int .i64 c.ag], .int .i64 0]) (by simp [results, Tryd.results20, go_sem, y0, y1, y2, y3, y4, y5, y6, y7, t0, t1, t2, t3, t4, t5, t6, t7, ne1, ne2]) rfl ?_
  rw [HE.out, HCO.out]
  have of1 : OffB w4.heap.size l.length A5 := np5.off (by omega)
  have of2 : OffB (w.heap.size + 1) l.length A5 := np5.off (by omega)
  have of3 : OffB w4.heap.size c.qs.length D3 := rd5.offB (Nat.le_refl _)
  have of4 : OffB (w.heap.size + 1) c.qs.length D3 := g3.off (by omega)
  refine ⟨A5, D3, c5, e3, rfl, ⟨?_, ?_, hl, hq2⟩, ?_, np5.mono (by omega), g3.mono (by have := bq.size; omega)⟩
  · exact (((((((((rp5.off of1 _).off of2 _).off of2 _).off of2 _).off of2 _).off of2 _).off of2 _).off of2 _).off of2 _).more (by simp [World.setCell])
  · exact (((((((((rd5.off of3 _).off of4 _).off of4 _).off of4 _).off of4 _).off of4 _).off of4 _).off of4 _).off of4 _).more (by simp [World.setCell]; omega)
  · exact (bset (bset (bset (bset (bset (bset (bset (bset (bset bh (by have := bg.size; omega) _) (by omega) _) (by omega) _) (by omega) _) (by omega) _) (by omega) _) (by omega) _) (by omega) _) (by omega) _)

set_option maxRecDepth 100000 in
set_option maxHeartbeats 2000000 in
theorem Place_d4 (c : Co) (A1 D1 : Option Addr) (c1 e1 : Nat) (l : List Int) (AL : Option Addr) (cl : Nat) (w : World) (h1 : CoR w w.heap.size c A1 D1) (hr : Reads w w.heap.size 1 AL l.length (cellsI .i64 l)) (hl : l.length ≤ 1000) (m1 : mayB c = true) (m2 : partsB l = true) (m3 : ¬ c.st = 0 ∨ l.length = 0) (m5' : c.st = 4) :
    Calls Tryd.prog 20 #[(.agg #[.int .i8 c.st, .int .i64 c.pid, .int .i64 c.ep, .int .i64 c.tm, .int .i64 c.th, .slice A1 c.ps.length c1, .slice D1 c.qs.length e1, .int .i64 c.ag]), .slice AL l.length cl] w (MvPost (placeC c l) (placeE c l) w) := by
  have m5 : c.st = 3 ∨ c.st = 4 := by omega
  have he : placeE c l = 0 := by unfold placeE; rw [if_neg (by simp [m1, m2]), if_neg (by omega)]
  have hco : placeC c l = { c with ps := l } := by unfold placeC; rw [if_neg (by rw [he]; simp), if_pos m5]
  have HE := Lib.hid he
  have HCO := Lib.hid hco
  have P1 := Lib.hid m2
  obtain ⟨i0, hi, hz0, hz1, hz2'⟩ := info_parts infoI
  have s3 : (c.st == 3) = false := eqb_false (by omega)
  have s4 : (c.st == 4) = true := eqb_true (by omega)
  have s2 : (c.st == 2) = false := eqb_false (by omega)
  have hq2 := h1.2.2.2
  have hst0 : (c.st == 0) = false := eqb_false (by omega)
  have h2 := (h1.al (.cells #[.int .i8 c.st, .int .i64 c.pid, .int .i64 c.ep, .int .i64 c.tm, .int .i64 c.th, .slice A1 c.ps.length c1, .slice D1 c.qs.length e1, .int .i64 c.ag] 26)).al (.cells #[.int .i8 0, .int .i64 0, .int .i64 0, .int .i64 0, .int .i64 0, .slice none 0 0, .slice none 0 0, .int .i64 0] 26)
  have hm := May_any c A1 D1 c1 e1 _ _ h2 (Nat.le_refl _)
  rw [m1] at hm
  have HM := Lib.hid hm
  have HB := Lib.hid (bal (bal (Below.refl w.heap.size w) (.cells #[.int .i8 c.st, .int .i64 c.pid, .int .i64 c.ep, .int .i64 c.tm, .int .i64 c.th, .slice A1 c.ps.length c1, .slice D1 c.qs.length e1, .int .i64 c.ag] 26)) (.cells #[.int .i8 0, .int .i64 0, .int .i64 0, .int .i64 0, .int .i64 0, .slice none 0 0, .slice none 0 0, .int .i64 0] 26))
  have K1 := Lib.hid ((Blk.new w 26 #[.int .i8 c.st, .int .i64 c.pid, .int .i64 c.ep, .int .i64 c.tm, .int .i64 c.th, .slice A1 c.ps.length c1, .slice D1 c.qs.length e1, .int .i64 c.ag]).alloc (.cells #[.int .i8 0, .int .i64 0, .int .i64 0, .int .i64 0, .int .i64 0, .slice none 0 0, .slice none 0 0, .int .i64 0] 26))
  have kk := Blk.new (w.alloc (.cells #[.int .i8 c.st, .int .i64 c.pid, .int .i64 c.ep, .int .i64 c.tm, .int .i64 c.th, .slice A1 c.ps.length c1, .slice D1 c.qs.length e1, .int .i64 c.ag] 26)) 26 #[.int .i8 0, .int .i64 0, .int .i64 0, .int .i64 0, .int .i64 0, .slice none 0 0, .slice none 0 0, .int .i64 0]
  rw [World.size_alloc] at kk
  have K2 := Lib.hid kk
  have HR := Lib.hid hr
  have H1 := Lib.hid h1
  clear h2 hm kk h1 hr m1 m2 m3 he hco m5 m5'
  go_enter Tryd.func20, Tryd.ntmps20
  go_wp2_with fail
  refine HM.out.mono ?_
  rintro e w2 ⟨rfl, b2⟩
  have hz2 := b2.size
  simp only [World.size_alloc] at hz2
  have bf := btrans HB.out b2
  have hap := areParts_any AL l cl w.heap.size w2 (HR.out.below bf) (by omega)
  rw [P1.out] at hap
  have HAP := Lib.hid hap
  clear hap
  go_wp2_with fail
  refine HAP.out.mono ?_
  rintro e w3 ⟨rfl, q, rfl⟩
  have bq := below_drewN bf q
  have k5 := (K1.out.below b2 (by simp only [World.size_alloc]; omega)).drewN q
  have k6 := (K2.out.below b2 (by simp only [World.size_alloc]; omega)).drewN q
  have hz3 : w.heap.size + 1 + 1 ≤ (w2.drewN q).heap.size := hz2
  generalize w2.drewN q = w3 at *
  have own0 := own_any c A1 D1 c1 e1 w3 (H1.out.up bq)
  have HOWN := Lib.hid own0
  clear own0
  have x0 := k5.cell 0
  have x1 := k5.cell 1
  have x2 := k5.cell 2
  have x3 := k5.cell 3
  have x4 := k5.cell 4
  have x5 := k5.cell 5
  have x6 := k5.cell 6
  have x7 := k5.cell 7
  go_wp2_with fail
  refine HOWN.out.mono ?_
  rintro e w4 ⟨A3, D3, c3, e3, rfl, r3, b3, f3, g3⟩
  have bg := btrans bq b3
  have hz4 := b3.size
  have ko := Blk.new w4 26 #[.int .i8 c.st, .int .i64 c.pid, .int .i64 c.ep, .int .i64 c.tm, .int .i64 c.th, .slice A3 c.ps.length c3, .slice D3 c.qs.length e3, .int .i64 c.ag]
  have RL := Lib.hid ((HR.out.below (bal bg (.cells #[.int .i8 c.st, .int .i64 c.pid, .int .i64 c.ep, .int .i64 c.tm, .int .i64 c.th, .slice A3 c.ps.length c3, .slice D3 c.qs.length e3, .int .i64 c.ag] 26))))
  have KO := Lib.hid ko
  have R3 := Lib.hid r3
  clear ko
  go_wp2_with (at_builtin; refine wpList_append_any _ rfl (.const (.slice none 0 0)) (.tmp 27) 23 rfl (w4.heap.size + 1) 3 i0 (.int .i64 0) 1 8 Tryd.underlying23 hi hz0 hz1 hz2' rfl (by decide) (.slice none 0 0) 0 [] rfl (World.ownsRow_nil _ _ _ _) w.heap.size AL l.length cl (cellsI .i64 l) rfl RL.out (cellsI_one _) (by unfold maxLen; omega) (by omega) (by simp) ?_; intro v5 w5 hown5 hg5 hat5; rw [Nat.zero_add, List.nil_append] at hown5; obtain ⟨A5, c5, rfl, hc5⟩ := own_slice hown5; have hgz := hg5.size; rw [World.size_alloc] at hgz; have k7 := ((k5.below b3 (by omega)).alloc (.cells #[.int .i8 c.st, .int .i64 c.pid, .int .i64 c.ep, .int .i64 c.tm, .int .i64 c.th, .slice A3 c.ps.length c3, .slice D3 c.qs.length e3, .int .i64 c.ag] 26)).grown hg5 (by simp [Value.ownBlock]); have k8 := ((k6.below b3 (by omega)).alloc (.cells #[.int .i8 c.st, .int .i64 c.pid, .int .i64 c.ep, .int .i64 c.tm, .int .i64 c.th, .slice A3 c.ps.length c3, .slice D3 c.qs.length e3, .int .i64 c.ag] 26)).grown hg5 (by simp [Value.ownBlock]); have k9 := KO.out.grown hg5 (by simp [Value.ownBlock]); have bh : Below w.heap.size w w5 := (bal bg (.cells #[.int .i8 c.st, .int .i64 c.pid, .int .i64 c.ep, .int .i64 c.tm, .int .i64 c.th, .slice A3 c.ps.length c3, .slice D3 c.qs.length e3, .int .i64 c.ag] 26)).grown hg5 (by have := bg.size; simp; omega) (fun k e => by simp [Value.ownBlock] at e); have rd5 : Reads w5 w4.heap.size 3 D3 c.qs.length (cellsP c.qs) := (R3.out.2.1.alloc (Nat.le_refl _) _).grown hg5 (by simp) (fun k e => by simp [Value.ownBlock] at e); have rp5 := Reads.of_own hown5; have np5 := newAt_of_own hown5; clear x0 x1 x2 x3 x4 x5 x6 x7; have x0 := k7.cell 0; have y0 := k8.cell 0; have z0 := k8.frozen 0; have t0 := k9.cell 0; have s0' := k9.frozen 0; have y1 := k8.cell 1; have z1 := k8.frozen 1; have t1 := k9.cell 1; have s1' := k9.frozen 1; have y2 := k8.cell 2; have z2 := k8.frozen 2; have t2 := k9.cell 2; have s2' := k9.frozen 2; have y3 := k8.cell 3; have z3 := k8.frozen 3; have t3 := k9.cell 3; have s3' := k9.frozen 3; have y4 := k8.cell 4; have z4 := k8.frozen 4; have t4 := k9.cell 4; have s4' := k9.frozen 4; have y5 := k8.cell 5; have z5 := k8.frozen 5; have t5 := k9.cell 5; have s5' := k9.frozen 5; have y6 := k8.cell 6; have z6 := k8.frozen 6; have t6 := k9.cell 6; have s6' := k9.frozen 6; have y7 := k8.cell 7; have z7 := k8.frozen 7; have t7 := k9.cell 7; have s7' := k9.frozen 7; have ne1 : ¬ w.heap.size + 1 = w4.heap.size := (by omega); have ne2 : ¬ w4.heap.size = w.heap.size + 1 := (by omega); have ne3 : ¬ w.heap.size = w4.heap.size := (by omega); have ne4 : ¬ w4.heap.size = w.heap.size := (by omega); clear hown5 hg5 hat5)
  refine bodyPost_ret (v := .tuple #[.agg #[.int .i8 c.st, .int .i64 c.pid, .int .i64 c.ep, .int .i64 c.tm, .int .i64 c.th, .slice A5 l.length c5, .slice D3 c.qs.length e3, .int .i64 c.ag], .int .i64 0]) (by simp [results, Tryd.results20, go_sem, y0, y1, y2, y3, y4, y5, y6, y7, t0, t1, t2, t3, t4, t5, t6, t7, ne1, ne2]) rfl ?_
  rw [HE.out, HCO.out]
  have of1 : OffB w4.heap.size l.length A5 := np5.off (by omega)
  have of2 : OffB (w.heap.size + 1) l.length A5 := np5.off (by omega)
  have of3 : OffB w4.heap.size c.qs.length D3 := rd5.offB (Nat.le_refl _)
  have of4 : OffB (w.heap.size + 1) c.qs.length D3 := g3.off (by omega)
  refine ⟨A5, D3, c5, e3, rfl, ⟨?_, ?_, hl, hq2⟩, ?_, np5.mono (by omega), g3.mono (by have := bq.size; omega)⟩
  · exact (((((((((rp5.off of1 _).off of2 _).off of2 _).off of2 _).off of2 _).off of2 _).off of2 _).off of2 _).off of2 _).more (by simp [World.setCell])
  · exact (((((((((rd5.off of3 _).off of4 _).off of4 _).off of4 _).off of4 _).off of4 _).off of4 _).off of4 _).off of4 _).more (by simp [World.setCell]; omega)
  · exact (bset (bset (bset (bset (bset (bset (bset (bset (bset bh (by have := bg.size; omega) _) (by omega) _) (by omega) _) (by omega) _) (by omega) _) (by omega) _) (by omega) _) (by omega) _) (by omega) _)

set_option maxRecDepth 100000 in
set_option maxHeartbeats 2000000 in
theorem Place_e (c : Co) (A1 D1 : Option Addr) (c1 e1 : Nat) (l : List Int) (AL : Option Addr) (cl : Nat) (w : World) (h1 : CoR w w.heap.size c A1 D1) (hr : Reads w w.heap.size 1 AL l.length (cellsI .i64 l)) (hl : l.length ≤ 1000) (m1 : mayB c = true) (m2 : partsB l = true) (m3 : ¬ c.st = 0 ∨ l.length = 0) (m5 : c.st = 2) (m6 : l.length = 0) (m7 : c.qs.length = 0) :
    Calls Tryd.prog 20 #[(.agg #[.int .i8 c.st, .int .i64 c.pid, .int .i64 c.ep, .int .i64 c.tm, .int .i64 c.th, .slice A1 c.ps.length c1, .slice D1 c.qs.length e1, .int .i64 c.ag]), .slice AL l.length cl] w (MvPost (placeC c l) (placeE c l) w) := by
  have he : placeE c l = 0 := by unfold placeE; rw [if_neg (by simp [m1, m2]), if_neg (by omega)]
  have hco : placeC c l = { c with ps := l, st := 1, ag := 0 } := by unfold placeC; rw [if_neg (by rw [he]; simp), if_neg (by omega), if_pos m5, if_pos ⟨m6, m7⟩]
  have HE := Lib.hid he
  have HCO := Lib.hid hco
  have P1 := Lib.hid m2
  obtain ⟨i0, hi, hz0, hz1, hz2'⟩ := info_parts infoI
  have s3 : (c.st == 3) = false := eqb_false (by omega)
  have s4 : (c.st == 4) = false := eqb_false (by omega)
  have s2 : (c.st == 2) = true := eqb_true (by omega)
  have hq2 := h1.2.2.2
  have d0 : ((l.length : Int) == 0) = true := eqb_true (by omega)
  have d1 : ((c.qs.length : Int) == 0) = true := eqb_true (by omega)
  have hst0 : (c.st == 0) = false := eqb_false (by omega)
  have h2 := (h1.al (.cells #[.int .i8 c.st, .int .i64 c.pid, .int .i64 c.ep, .int .i64 c.tm, .int .i64 c.th, .slice A1 c.ps.length c1, .slice D1 c.qs.length e1, .int .i64 c.ag] 26)).al (.cells #[.int .i8 0, .int .i64 0, .int .i64 0, .int .i64 0, .int .i64 0, .slice none 0 0, .slice none 0 0, .int .i64 0] 26)
  have hm := May_any c A1 D1 c1 e1 _ _ h2 (Nat.le_refl _)
  rw [m1] at hm
  have HM := Lib.hid hm
  have HB := Lib.hid (bal (bal (Below.refl w.heap.size w) (.cells #[.int .i8 c.st, .int .i64 c.pid, .int .i64 c.ep, .int .i64 c.tm, .int .i64 c.th, .slice A1 c.ps.length c1, .slice D1 c.qs.length e1, .int .i64 c.ag] 26)) (.cells #[.int .i8 0, .int .i64 0, .int .i64 0, .int .i64 0, .int .i64 0, .slice none 0 0, .slice none 0 0, .int .i64 0] 26))
  have K1 := Lib.hid ((Blk.new w 26 #[.int .i8 c.st, .int .i64 c.pid, .int .i64 c.ep, .int .i64 c.tm, .int .i64 c.th, .slice A1 c.ps.length c1, .slice D1 c.qs.length e1, .int .i64 c.ag]).alloc (.cells #[.int .i8 0, .int .i64 0, .int .i64 0, .int .i64 0, .int .i64 0, .slice none 0 0, .slice none 0 0, .int .i64 0] 26))
  have kk := Blk.new (w.alloc (.cells #[.int .i8 c.st, .int .i64 c.pid, .int .i64 c.ep, .int .i64 c.tm, .int .i64 c.th, .slice A1 c.ps.length c1, .slice D1 c.qs.length e1, .int .i64 c.ag] 26)) 26 #[.int .i8 0, .int .i64 0, .int .i64 0, .int .i64 0, .int .i64 0, .slice none 0 0, .slice none 0 0, .int .i64 0]
  rw [World.size_alloc] at kk
  have K2 := Lib.hid kk
  have HR := Lib.hid hr
  have H1 := Lib.hid h1
  clear h2 hm kk h1 hr m1 m2 m3 he hco m5 m6 m7
  go_enter Tryd.func20, Tryd.ntmps20
  go_wp2_with fail
  refine HM.out.mono ?_
  rintro e w2 ⟨rfl, b2⟩
  have hz2 := b2.size
  simp only [World.size_alloc] at hz2
  have bf := btrans HB.out b2
  have hap := areParts_any AL l cl w.heap.size w2 (HR.out.below bf) (by omega)
  rw [P1.out] at hap
  have HAP := Lib.hid hap
  clear hap
  go_wp2_with fail
  refine HAP.out.mono ?_
  rintro e w3 ⟨rfl, q, rfl⟩
  have bq := below_drewN bf q
  have k5 := (K1.out.below b2 (by simp only [World.size_alloc]; omega)).drewN q
  have k6 := (K2.out.below b2 (by simp only [World.size_alloc]; omega)).drewN q
  have hz3 : w.heap.size + 1 + 1 ≤ (w2.drewN q).heap.size := hz2
  generalize w2.drewN q = w3 at *
  have own0 := own_any c A1 D1 c1 e1 w3 (H1.out.up bq)
  have HOWN := Lib.hid own0
  clear own0
  have x0 := k5.cell 0
  have x1 := k5.cell 1
  have x2 := k5.cell 2
  have x3 := k5.cell 3
  have x4 := k5.cell 4
  have x5 := k5.cell 5
  have x6 := k5.cell 6
  have x7 := k5.cell 7
  go_wp2_with fail
  refine HOWN.out.mono ?_
  rintro e w4 ⟨A3, D3, c3, e3, rfl, r3, b3, f3, g3⟩
  have bg := btrans bq b3
  have hz4 := b3.size
  have ko := Blk.new w4 26 #[.int .i8 c.st, .int .i64 c.pid, .int .i64 c.ep, .int .i64 c.tm, .int .i64 c.th, .slice A3 c.ps.length c3, .slice D3 c.qs.length e3, .int .i64 c.ag]
  have RL := Lib.hid ((HR.out.below (bal bg (.cells #[.int .i8 c.st, .int .i64 c.pid, .int .i64 c.ep, .int .i64 c.tm, .int .i64 c.th, .slice A3 c.ps.length c3, .slice D3 c.qs.length e3, .int .i64 c.ag] 26))))
  have KO := Lib.hid ko
  have R3 := Lib.hid r3
  clear ko
  go_wp2_with (at_builtin; refine wpList_append_any _ rfl (.const (.slice none 0 0)) (.tmp 27) 23 rfl (w4.heap.size + 1) 3 i0 (.int .i64 0) 1 8 Tryd.underlying23 hi hz0 hz1 hz2' rfl (by decide) (.slice none 0 0) 0 [] rfl (World.ownsRow_nil _ _ _ _) w.heap.size AL l.length cl (cellsI .i64 l) rfl RL.out (cellsI_one _) (by unfold maxLen; omega) (by omega) (by simp) ?_; intro v5 w5 hown5 hg5 hat5; rw [Nat.zero_add, List.nil_append] at hown5; obtain ⟨A5, c5, rfl, hc5⟩ := own_slice hown5; have hgz := hg5.size; rw [World.size_alloc] at hgz; have k7 := ((k5.below b3 (by omega)).alloc (.cells #[.int .i8 c.st, .int .i64 c.pid, .int .i64 c.ep, .int .i64 c.tm, .int .i64 c.th, .slice A3 c.ps.length c3, .slice D3 c.qs.length e3, .int .i64 c.ag] 26)).grown hg5 (by simp [Value.ownBlock]); have k8 := ((k6.below b3 (by omega)).alloc (.cells #[.int .i8 c.st, .int .i64 c.pid, .int .i64 c.ep, .int .i64 c.tm, .int .i64 c.th, .slice A3 c.ps.length c3, .slice D3 c.qs.length e3, .int .i64 c.ag] 26)).grown hg5 (by simp [Value.ownBlock]); have k9 := KO.out.grown hg5 (by simp [Value.ownBlock]); have bh : Below w.heap.size w w5 := (bal bg (.cells #[.int .i8 c.st, .int .i64 c.pid, .int .i64 c.ep, .int .i64 c.tm, .int .i64 c.th, .slice A3 c.ps.length c3, .slice D3 c.qs.length e3, .int .i64 c.ag] 26)).grown hg5 (by have := bg.size; simp; omega) (fun k e => by simp [Value.ownBlock] at e); have rd5 : Reads w5 w4.heap.size 3 D3 c.qs.length (cellsP c.qs) := (R3.out.2.1.alloc (Nat.le_refl _) _).grown hg5 (by simp) (fun k e => by simp [Value.ownBlock] at e); have rp5 := Reads.of_own hown5; have np5 := newAt_of_own hown5; clear x0 x1 x2 x3 x4 x5 x6 x7; have x0 := k7.cell 0; have y0 := k8.cell 0; have z0 := k8.frozen 0; have t0 := k9.cell 0; have s0' := k9.frozen 0; have y1 := k8.cell 1; have z1 := k8.frozen 1; have t1 := k9.cell 1; have s1' := k9.frozen 1; have y2 := k8.cell 2; have z2 := k8.frozen 2; have t2 := k9.cell 2; have s2' := k9.frozen 2; have y3 := k8.cell 3; have z3 := k8.frozen 3; have t3 := k9.cell 3; have s3' := k9.frozen 3; have y4 := k8.cell 4; have z4 := k8.frozen 4; have t4 := k9.cell 4; have s4' := k9.frozen 4; have y5 := k8.cell 5; have z5 := k8.frozen 5; have t5 := k9.cell 5; have s5' := k9.frozen 5; have y6 := k8.cell 6; have z6 := k8.frozen 6; have t6 := k9.cell 6; have s6' := k9.frozen 6; have y7 := k8.cell 7; have z7 := k8.frozen 7; have t7 := k9.cell 7; have s7' := k9.frozen 7; have ne1 : ¬ w.heap.size + 1 = w4.heap.size := (by omega); have ne2 : ¬ w4.heap.size = w.heap.size + 1 := (by omega); have ne3 : ¬ w.heap.size = w4.heap.size := (by omega); have ne4 : ¬ w4.heap.size = w.heap.size := (by omega); clear hown5 hg5 hat5)
  refine bodyPost_ret (v := .tuple #[.agg #[.int .i8 1, .int .i64 c.pid, .int .i64 c.ep, .int .i64 c.tm, .int .i64 c.th, .slice A5 l.length c5, .slice D3 c.qs.length e3, .int .i64 0], .int .i64 0]) (by simp [results, Tryd.results20, go_sem, y0, y1, y2, y3, y4, y5, y6, y7, t0, t1, t2, t3, t4, t5, t6, t7, ne1, ne2]) rfl ?_
  rw [HE.out, HCO.out]
  have of1 : OffB w4.heap.size l.length A5 := np5.off (by omega)
  have of2 : OffB (w.heap.size + 1) l.length A5 := np5.off (by omega)
  have of3 : OffB w4.heap.size c.qs.length D3 := rd5.offB (Nat.le_refl _)
  have of4 : OffB (w.heap.size + 1) c.qs.length D3 := g3.off (by omega)
  refine ⟨A5, D3, c5, e3, rfl, ⟨?_, ?_, hl, hq2⟩, ?_, np5.mono (by omega), g3.mono (by have := bq.size; omega)⟩
  · exact (((((((((((rp5.off of1 _).off of1 _).off of1 _).off of2 _).off of2 _).off of2 _).off of2 _).off of2 _).off of2 _).off of2 _).off of2 _).more (by simp [World.setCell])
  · exact (((((((((((rd5.off of3 _).off of3 _).off of3 _).off of4 _).off of4 _).off of4 _).off of4 _).off of4 _).off of4 _).off of4 _).off of4 _).more (by simp [World.setCell]; omega)
  · exact (bset (bset (bset (bset (bset (bset (bset (bset (bset (bset (bset bh (by have := bg.size; omega) _) (by have := bg.size; omega) _) (by have := bg.size; omega) _) (by omega) _) (by omega) _) (by omega) _) (by omega) _) (by omega) _) (by omega) _) (by omega) _) (by omega) _)

set_option maxRecDepth 100000 in
set_option maxHeartbeats 2000000 in
theorem Place_f (c : Co) (A1 D1 : Option Addr) (c1 e1 : Nat) (l : List Int) (AL : Option Addr) (cl : Nat) (w : World) (h1 : CoR w w.heap.size c A1 D1) (hr : Reads w w.heap.size 1 AL l.length (cellsI .i64 l)) (hl : l.length ≤ 1000) (m1 : mayB c = true) (m2 : partsB l = true) (m3 : ¬ c.st = 0 ∨ l.length = 0) (m5 : c.st = 2) (m6 : l.length = 0) (m7 : 0 < c.qs.length) :
    Calls Tryd.prog 20 #[(.agg #[.int .i8 c.st, .int .i64 c.pid, .int .i64 c.ep, .int .i64 c.tm, .int .i64 c.th, .slice A1 c.ps.length c1, .slice D1 c.qs.length e1, .int .i64 c.ag]), .slice AL l.length cl] w (MvPost (placeC c l) (placeE c l) w) := by
  have he : placeE c l = 0 := by unfold placeE; rw [if_neg (by simp [m1, m2]), if_neg (by omega)]
  have hco : placeC c l = { c with ps := l } := by unfold placeC; rw [if_neg (by rw [he]; simp), if_neg (by omega), if_pos m5, if_neg (by omega)]
  have HE := Lib.hid he
  have HCO := Lib.hid hco
  have P1 := Lib.hid m2
  obtain ⟨i0, hi, hz0, hz1, hz2'⟩ := info_parts infoI
  have s3 : (c.st == 3) = false := eqb_false (by omega)
  have s4 : (c.st == 4) = false := eqb_false (by omega)
  have s2 : (c.st == 2) = true := eqb_true (by omega)
  have hq2 := h1.2.2.2
  have d0 : ((l.length : Int) == 0) = true := eqb_true (by omega)
  have d1 : ((c.qs.length : Int) == 0) = false := eqb_false (by omega)
  have hst0 : (c.st == 0) = false := eqb_false (by omega)
  have h2 := (h1.al (.cells #[.int .i8 c.st, .int .i64 c.pid, .int .i64 c.ep, .int .i64 c.tm, .int .i64 c.th, .slice A1 c.ps.length c1, .slice D1 c.qs.length e1, .int .i64 c.ag] 26)).al (.cells #[.int .i8 0, .int .i64 0, .int .i64 0, .int .i64 0, .int .i64 0, .slice none 0 0, .slice none 0 0, .int .i64 0] 26)
  have hm := May_any c A1 D1 c1 e1 _ _ h2 (Nat.le_refl _)
  rw [m1] at hm
  have HM := Lib.hid hm
  have HB := Lib.hid (bal (bal (Below.refl w.heap.size w) (.cells #[.int .i8 c.st, .int .i64 c.pid, .int .i64 c.ep, .int .i64 c.tm, .int .i64 c.th, .slice A1 c.ps.length c1, .slice D1 c.qs.length e1, .int .i64 c.ag] 26)) (.cells #[.int .i8 0, .int .i64 0, .int .i64 0, .int .i64 0, .int .i64 0, .slice none 0 0, .slice none 0 0, .int .i64 0] 26))
  have K1 := Lib.hid ((Blk.new w 26 #[.int .i8 c.st, .int .i64 c.pid, .int .i64 c.ep, .int .i64 c.tm, .int .i64 c.th, .slice A1 c.ps.length c1, .slice D1 c.qs.length e1, .int .i64 c.ag]).alloc (.cells #[.int .i8 0, .int .i64 0, .int .i64 0, .int .i64 0, .int .i64 0, .slice none 0 0, .slice none 0 0, .int .i64 0] 26))
  have kk := Blk.new (w.alloc (.cells #[.int .i8 c.st, .int .i64 c.pid, .int .i64 c.ep, .int .i64 c.tm, .int .i64 c.th, .slice A1 c.ps.length c1, .slice D1 c.qs.length e1, .int .i64 c.ag] 26)) 26 #[.int .i8 0, .int .i64 0, .int .i64 0, .int .i64 0, .int .i64 0, .slice none 0 0, .slice none 0 0, .int .i64 0]
  rw [World.size_alloc] at kk
  have K2 := Lib.hid kk
  have HR := Lib.hid hr
  have H1 := Lib.hid h1
  clear h2 hm kk h1 hr m1 m2 m3 he hco m5 m6 m7
  go_enter Tryd.func20, Tryd.ntmps20
  go_wp2_with fail
  refine HM.out.mono ?_
  rintro e w2 ⟨rfl, b2⟩
  have hz2 := b2.size
  simp only [World.size_alloc] at hz2
  have bf := btrans HB.out b2
  have hap := areParts_any AL l cl w.heap.size w2 (HR.out.below bf) (by omega)
  rw [P1.out] at hap
  have HAP := Lib.hid hap
  clear hap
  go_wp2_with fail
  refine HAP.out.mono ?_
  rintro e w3 ⟨rfl, q, rfl⟩
  have bq := below_drewN bf q
  have k5 := (K1.out.below b2 (by simp only [World.size_alloc]; omega)).drewN q
  have k6 := (K2.out.below b2 (by simp only [World.size_alloc]; omega)).drewN q
  have hz3 : w.heap.size + 1 + 1 ≤ (w2.drewN q).heap.size := hz2
  generalize w2.drewN q = w3 at *
  have own0 := own_any c A1 D1 c1 e1 w3 (H1.out.up bq)
  have HOWN := Lib.hid own0
  clear own0
  have x0 := k5.cell 0
  have x1 := k5.cell 1
  have x2 := k5.cell 2
  have x3 := k5.cell 3
  have x4 := k5.cell 4
  have x5 := k5.cell 5
  have x6 := k5.cell 6
  have x7 := k5.cell 7
  go_wp2_with fail
  refine HOWN.out.mono ?_
  rintro e w4 ⟨A3, D3, c3, e3, rfl, r3, b3, f3, g3⟩
  have bg := btrans bq b3
  have hz4 := b3.size
  have ko := Blk.new w4 26 #[.int .i8 c.st, .int .i64 c.pid, .int .i64 c.ep, .int .i64 c.tm, .int .i64 c.th, .slice A3 c.ps.length c3, .slice D3 c.qs.length e3, .int .i64 c.ag]
  have RL := Lib.hid ((HR.out.below (bal bg (.cells #[.int .i8 c.st, .int .i64 c.pid, .int .i64 c.ep, .int .i64 c.tm, .int .i64 c.th, .slice A3 c.ps.length c3, .slice D3 c.qs.length e3, .int .i64 c.ag] 26))))
  have KO := Lib.hid ko
  have R3 := Lib.hid r3
  clear ko
  go_wp2_with (at_builtin; refine wpList_append_any _ rfl (.const (.slice none 0 0)) (.tmp 27) 23 rfl (w4.heap.size + 1) 3 i0 (.int .i64 0) 1 8 Tryd.underlying23 hi hz0 hz1 hz2' rfl (by decide) (.slice none 0 0) 0 [] rfl (World.ownsRow_nil _ _ _ _) w.heap.size AL l.length cl (cellsI .i64 l) rfl RL.out (cellsI_one _) (by unfold maxLen; omega) (by omega) (by simp) ?_; intro v5 w5 hown5 hg5 hat5; rw [Nat.zero_add, List.nil_append] at hown5; obtain ⟨A5, c5, rfl, hc5⟩ := own_slice hown5; have hgz := hg5.size; rw [World.size_alloc] at hgz; have k7 := ((k5.below b3 (by omega)).alloc (.cells #[.int .i8 c.st, .int .i64 c.pid, .int .i64 c.ep, .int .i64 c.tm, .int .i64 c.th, .slice A3 c.ps.length c3, .slice D3 c.qs.length e3, .int .i64 c.ag] 26)).grown hg5 (by simp [Value.ownBlock]); have k8 := ((k6.below b3 (by omega)).alloc (.cells #[.int .i8 c.st, .int .i64 c.pid, .int .i64 c.ep, .int .i64 c.tm, .int .i64 c.th, .slice A3 c.ps.length c3, .slice D3 c.qs.length e3, .int .i64 c.ag] 26)).grown hg5 (by simp [Value.ownBlock]); have k9 := KO.out.grown hg5 (by simp [Value.ownBlock]); have bh : Below w.heap.size w w5 := (bal bg (.cells #[.int .i8 c.st, .int .i64 c.pid, .int .i64 c.ep, .int .i64 c.tm, .int .i64 c.th, .slice A3 c.ps.length c3, .slice D3 c.qs.length e3, .int .i64 c.ag] 26)).grown hg5 (by have := bg.size; simp; omega) (fun k e => by simp [Value.ownBlock] at e); have rd5 : Reads w5 w4.heap.size 3 D3 c.qs.length (cellsP c.qs) := (R3.out.2.1.alloc (Nat.le_refl _) _).grown hg5 (by simp) (fun k e => by simp [Value.ownBlock] at e); have rp5 := Reads.of_own hown5; have np5 := newAt_of_own hown5; clear x0 x1 x2 x3 x4 x5 x6 x7; have x0 := k7.cell 0; have y0 := k8.cell 0; have z0 := k8.frozen 0; have t0 := k9.cell 0; have s0' := k9.frozen 0; have y1 := k8.cell 1; have z1 := k8.frozen 1; have t1 := k9.cell 1; have s1' := k9.frozen 1; have y2 := k8.cell 2; have z2 := k8.frozen 2; have t2 := k9.cell 2; have s2' := k9.frozen 2; have y3 := k8.cell 3; have z3 := k8.frozen 3; have t3 := k9.cell 3; have s3' := k9.frozen 3; have y4 := k8.cell 4; have z4 := k8.frozen 4; have t4 := k9.cell 4; have s4' := k9.frozen 4; have y5 := k8.cell 5; have z5 := k8.frozen 5; have t5 := k9.cell 5; have s5' := k9.frozen 5; have y6 := k8.cell 6; have z6 := k8.frozen 6; have t6 := k9.cell 6; have s6' := k9.frozen 6; have y7 := k8.cell 7; have z7 := k8.frozen 7; have t7 := k9.cell 7; have s7' := k9.frozen 7; have ne1 : ¬ w.heap.size + 1 = w4.heap.size := (by omega); have ne2 : ¬ w4.heap.size = w.heap.size + 1 := (by omega); have ne3 : ¬ w.heap.size = w4.heap.size := (by omega); have ne4 : ¬ w4.heap.size = w.heap.size := (by omega); clear hown5 hg5 hat5)
  refine bodyPost_ret (v := .tuple #[.agg #[.int .i8 c.st, .int .i64 c.pid, .int .i64 c.ep, .int .i64 c.tm, .int .i64 c.th, .slice A5 l.length c5, .slice D3 c.qs.length e3, .int .i64 c.ag], .int .i64 0]) (by simp [results, Tryd.results20, go_sem, y0, y1, y2, y3, y4, y5, y6, y7, t0, t1, t2, t3, t4, t5, t6, t7, ne1, ne2]) rfl ?_
  rw [HE.out, HCO.out]
  have of1 : OffB w4.heap.size l.length A5 := np5.off (by omega)
  have of2 : OffB (w.heap.size + 1) l.length A5 := np5.off (by omega)
  have of3 : OffB w4.heap.size c.qs.length D3 := rd5.offB (Nat.le_refl _)
  have of4 : OffB (w.heap.size + 1) c.qs.length D3 := g3.off (by omega)
  refine ⟨A5, D3, c5, e3, rfl, ⟨?_, ?_, hl, hq2⟩, ?_, np5.mono (by omega), g3.mono (by have := bq.size; omega)⟩
  · exact (((((((((rp5.off of1 _).off of2 _).off of2 _).off of2 _).off of2 _).off of2 _).off of2 _).off of2 _).off of2 _).more (by simp [World.setCell])
  · exact (((((((((rd5.off of3 _).off of4 _).off of4 _).off of4 _).off of4 _).off of4 _).off of4 _).off of4 _).off of4 _).more (by simp [World.setCell]; omega)
  · exact (bset (bset (bset (bset (bset (bset (bset (bset (bset bh (by have := bg.size; omega) _) (by omega) _) (by omega) _) (by omega) _) (by omega) _) (by omega) _) (by omega) _) (by omega) _) (by omega) _)

set_option maxRecDepth 100000 in
set_option maxHeartbeats 2000000 in
theorem Place_g (c : Co) (A1 D1 : Option Addr) (c1 e1 : Nat) (l : List Int) (AL : Option Addr) (cl : Nat) (w : World) (h1 : CoR w w.heap.size c A1 D1) (hr : Reads w w.heap.size 1 AL l.length (cellsI .i64 l)) (hl : l.length ≤ 1000) (m1 : mayB c = true) (m2 : partsB l = true) (m3 : ¬ c.st = 0 ∨ l.length = 0) (m5 : c.st = 2) (m6 : 0 < l.length) :
    Calls Tryd.prog 20 #[(.agg #[.int .i8 c.st, .int .i64 c.pid, .int .i64 c.ep, .int .i64 c.tm, .int .i64 c.th, .slice A1 c.ps.length c1, .slice D1 c.qs.length e1, .int .i64 c.ag]), .slice AL l.length cl] w (MvPost (placeC c l) (placeE c l) w) := by
  have he : placeE c l = 0 := by unfold placeE; rw [if_neg (by simp [m1, m2]), if_neg (by omega)]
  have hco : placeC c l = { c with ps := l } := by unfold placeC; rw [if_neg (by rw [he]; simp), if_neg (by omega), if_pos m5, if_neg (by omega)]
  have HE := Lib.hid he
  have HCO := Lib.hid hco
  have P1 := Lib.hid m2
  obtain ⟨i0, hi, hz0, hz1, hz2'⟩ := info_parts infoI
  have s3 : (c.st == 3) = false := eqb_false (by omega)
  have s4 : (c.st == 4) = false := eqb_false (by omega)
  have s2 : (c.st == 2) = true := eqb_true (by omega)
  have hq2 := h1.2.2.2
  have d0 : ((l.length : Int) == 0) = false := eqb_false (by omega)
  have hst0 : (c.st == 0) = false := eqb_false (by omega)
  have h2 := (h1.al (.cells #[.int .i8 c.st, .int .i64 c.pid, .int .i64 c.ep, .int .i64 c.tm, .int .i64 c.th, .slice A1 c.ps.length c1, .slice D1 c.qs.length e1, .int .i64 c.ag] 26)).al (.cells #[.int .i8 0, .int .i64 0, .int .i64 0, .int .i64 0, .int .i64 0, .slice none 0 0, .slice none 0 0, .int .i64 0] 26)
  have hm := May_any c A1 D1 c1 e1 _ _ h2 (Nat.le_refl _)
  rw [m1] at hm
  have HM := Lib.hid hm
  have HB := Lib.hid (bal (bal (Below.refl w.heap.size w) (.cells #[.int .i8 c.st, .int .i64 c.pid, .int .i64 c.ep, .int .i64 c.tm, .int .i64 c.th, .slice A1 c.ps.length c1, .slice D1 c.qs.length e1, .int .i64 c.ag] 26)) (.cells #[.int .i8 0, .int .i64 0, .int .i64 0, .int .i64 0, .int .i64 0, .slice none 0 0, .slice none 0 0, .int .i64 0] 26))
  have K1 := Lib.hid ((Blk.new w 26 #[.int .i8 c.st, .int .i64 c.pid, .int .i64 c.ep, .int .i64 c.tm, .int .i64 c.th, .slice A1 c.ps.length c1, .slice D1 c.qs.length e1, .int .i64 c.ag]).alloc (.cells #[.int .i8 0, .int .i64 0, .int .i64 0, .int .i64 0, .int .i64 0, .slice none 0 0, .slice none 0 0, .int .i64 0] 26))
  have kk := Blk.new (w.alloc (.cells #[.int .i8 c.st, .int .i64 c.pid, .int .i64 c.ep, .int .i64 c.tm, .int .i64 c.th, .slice A1 c.ps.length c1, .slice D1 c.qs.length e1, .int .i64 c.ag] 26)) 26 #[.int .i8 0, .int .i64 0, .int .i64 0, .int .i64 0, .int .i64 0, .slice none 0 0, .slice none 0 0, .int .i64 0]
  rw [World.size_alloc] at kk
  have K2 := Lib.hid kk
  have HR := Lib.hid hr
  have H1 := Lib.hid h1
  clear h2 hm kk h1 hr m1 m2 m3 he hco m5 m6
  go_enter Tryd.func20, Tryd.ntmps20
  go_wp2_with fail
  refine HM.out.mono ?_
  rintro e w2 ⟨rfl, b2⟩
  have hz2 := b2.size
  simp only [World.size_alloc] at hz2
  have bf := btrans HB.out b2
  have hap := areParts_any AL l cl w.heap.size w2 (HR.out.below bf) (by omega)
  rw [P1.out] at hap
  have HAP := Lib.hid hap
  clear hap
  go_wp2_with fail
  refine HAP.out.mono ?_
  rintro e w3 ⟨rfl, q, rfl⟩
  have bq := below_drewN bf q
  have k5 := (K1.out.below b2 (by simp only [World.size_alloc]; omega)).drewN q
  have k6 := (K2.out.below b2 (by simp only [World.size_alloc]; omega)).drewN q
  have hz3 : w.heap.size + 1 + 1 ≤ (w2.drewN q).heap.size := hz2
  generalize w2.drewN q = w3 at *
  have own0 := own_any c A1 D1 c1 e1 w3 (H1.out.up bq)
  have HOWN := Lib.hid own0
  clear own0
  have x0 := k5.cell 0
  have x1 := k5.cell 1
  have x2 := k5.cell 2
  have x3 := k5.cell 3
  have x4 := k5.cell 4
  have x5 := k5.cell 5
  have x6 := k5.cell 6
  have x7 := k5.cell 7
  go_wp2_with fail
  refine HOWN.out.mono ?_
  rintro e w4 ⟨A3, D3, c3, e3, rfl, r3, b3, f3, g3⟩
  have bg := btrans bq b3
  have hz4 := b3.size
  have ko := Blk.new w4 26 #[.int .i8 c.st, .int .i64 c.pid, .int .i64 c.ep, .int .i64 c.tm, .int .i64 c.th, .slice A3 c.ps.length c3, .slice D3 c.qs.length e3, .int .i64 c.ag]
  have RL := Lib.hid ((HR.out.below (bal bg (.cells #[.int .i8 c.st, .int .i64 c.pid, .int .i64 c.ep, .int .i64 c.tm, .int .i64 c.th, .slice A3 c.ps.length c3, .slice D3 c.qs.length e3, .int .i64 c.ag] 26))))
  have KO := Lib.hid ko
  have R3 := Lib.hid r3
  clear ko
  go_wp2_with (at_builtin; refine wpList_append_any _ rfl (.const (.slice none 0 0)) (.tmp 27) 23 rfl (w4.heap.size + 1) 3 i0 (.int .i64 0) 1 8 Tryd.underlying23 hi hz0 hz1 hz2' rfl (by decide) (.slice none 0 0) 0 [] rfl (World.ownsRow_nil _ _ _ _) w.heap.size AL l.length cl (cellsI .i64 l) rfl RL.out (cellsI_one _) (by unfold maxLen; omega) (by omega) (by simp) ?_; intro v5 w5 hown5 hg5 hat5; rw [Nat.zero_add, List.nil_append] at hown5; obtain ⟨A5, c5, rfl, hc5⟩ := own_slice hown5; have hgz := hg5.size; rw [World.size_alloc] at hgz; have k7 := ((k5.below b3 (by omega)).alloc (.cells #[.int .i8 c.st, .int .i64 c.pid, .int .i64 c.ep, .int .i64 c.tm, .int .i64 c.th, .slice A3 c.ps.length c3, .slice D3 c.qs.length e3, .int .i64 c.ag] 26)).grown hg5 (by simp [Value.ownBlock]); have k8 := ((k6.below b3 (by omega)).alloc (.cells #[.int .i8 c.st, .int .i64 c.pid, .int .i64 c.ep, .int .i64 c.tm, .int .i64 c.th, .slice A3 c.ps.length c3, .slice D3 c.qs.length e3, .int .i64 c.ag] 26)).grown hg5 (by simp [Value.ownBlock]); have k9 := KO.out.grown hg5 (by simp [Value.ownBlock]); have bh : Below w.heap.size w w5 := (bal bg (.cells #[.int .i8 c.st, .int .i64 c.pid, .int .i64 c.ep, .int .i64 c.tm, .int .i64 c.th, .slice A3 c.ps.length c3, .slice D3 c.qs.length e3, .int .i64 c.ag] 26)).grown hg5 (by have := bg.size; simp; omega) (fun k e => by simp [Value.ownBlock] at e); have rd5 : Reads w5 w4.heap.size 3 D3 c.qs.length (cellsP c.qs) := (R3.out.2.1.alloc (Nat.le_refl _) _).grown hg5 (by simp) (fun k e => by simp [Value.ownBlock] at e); have rp5 := Reads.of_own hown5; have np5 := newAt_of_own hown5; clear x0 x1 x2 x3 x4 x5 x6 x7; have x0 := k7.cell 0; have y0 := k8.cell 0; have z0 := k8.frozen 0; have t0 := k9.cell 0; have s0' := k9.frozen 0; have y1 := k8.cell 1; have z1 := k8.frozen 1; have t1 := k9.cell 1; have s1' := k9.frozen 1; have y2 := k8.cell 2; have z2 := k8.frozen 2; have t2 := k9.cell 2; have s2' := k9.frozen 2; have y3 := k8.cell 3; have z3 := k8.frozen 3; have t3 := k9.cell 3; have s3' := k9.frozen 3; have y4 := k8.cell 4; have z4 := k8.frozen 4; have t4 := k9.cell 4; have s4' := k9.frozen 4; have y5 := k8.cell 5; have z5 := k8.frozen 5; have t5 := k9.cell 5; have s5' := k9.frozen 5; have y6 := k8.cell 6; have z6 := k8.frozen 6; have t6 := k9.cell 6; have s6' := k9.frozen 6; have y7 := k8.cell 7; have z7 := k8.frozen 7; have t7 := k9.cell 7; have s7' := k9.frozen 7; have ne1 : ¬ w.heap.size + 1 = w4.heap.size := (by omega); have ne2 : ¬ w4.heap.size = w.heap.size + 1 := (by omega); have ne3 : ¬ w.heap.size = w4.heap.size := (by omega); have ne4 : ¬ w4.heap.size = w.heap.size := (by omega); clear hown5 hg5 hat5)
  refine bodyPost_ret (v := .tuple #[.agg #[.int .i8 c.st, .int .i64 c.pid, .int .i64 c.ep, .int .i64 c.tm, .int .i64 c.th, .slice A5 l.length c5, .slice D3 c.qs.length e3, .int .i64 c.ag], .int .i64 0]) (by simp [results, Tryd.results20, go_sem, y0, y1, y2, y3, y4, y5, y6, y7, t0, t1, t2, t3, t4, t5, t6, t7, ne1, ne2]) rfl ?_
  rw [HE.out, HCO.out]
  have of1 : OffB w4.heap.size l.length A5 := np5.off (by omega)
  have of2 : OffB (w.heap.size + 1) l.length A5 := np5.off (by omega)
  have of3 : OffB w4.heap.size c.qs.length D3 := rd5.offB (Nat.le_refl _)
  have of4 : OffB (w.heap.size + 1) c.qs.length D3 := g3.off (by omega)
  refine ⟨A5, D3, c5, e3, rfl, ⟨?_, ?_, hl, hq2⟩, ?_, np5.mono (by omega), g3.mono (by have := bq.size; omega)⟩
  · exact (((((((((rp5.off of1 _).off of2 _).off of2 _).off of2 _).off of2 _).off of2 _).off of2 _).off of2 _).off of2 _).more (by simp [World.setCell])
  · exact (((((((((rd5.off of3 _).off of4 _).off of4 _).off of4 _).off of4 _).off of4 _).off of4 _).off of4 _).off of4 _).more (by simp [World.setCell]; omega)
  · exact (bset (bset (bset (bset (bset (bset (bset (bset (bset bh (by have := bg.size; omega) _) (by omega) _) (by omega) _) (by omega) _) (by omega) _) (by omega) _) (by omega) _) (by omega) _) (by omega) _)

set_option maxRecDepth 100000 in
set_option maxHeartbeats 2000000 in
theorem Place_h (c : Co) (A1 D1 : Option Addr) (c1 e1 : Nat) (l : List Int) (AL : Option Addr) (cl : Nat) (w : World) (h1 : CoR w w.heap.size c A1 D1) (hr : Reads w w.heap.size 1 AL l.length (cellsI .i64 l)) (hl : l.length ≤ 1000) (m1 : mayB c = true) (m2 : partsB l = true) (m3 : ¬ c.st = 0 ∨ l.length = 0) (m5 : ¬ (c.st = 2 ∨ c.st = 3 ∨ c.st = 4)) (m6 : 0 < l.length) :
    Calls Tryd.prog 20 #[(.agg #[.int .i8 c.st, .int .i64 c.pid, .int .i64 c.ep, .int .i64 c.tm, .int .i64 c.th, .slice A1 c.ps.length c1, .slice D1 c.qs.length e1, .int .i64 c.ag]), .slice AL l.length cl] w (MvPost (placeC c l) (placeE c l) w) := by
  have he : placeE c l = 0 := by unfold placeE; rw [if_neg (by simp [m1, m2]), if_neg (by omega)]
  have hco : placeC c l = { c with ps := l, st := 2 } := by unfold placeC; rw [if_neg (by rw [he]; simp), if_neg (by omega), if_neg (by omega), if_pos m6]
  have HE := Lib.hid he
  have HCO := Lib.hid hco
  have P1 := Lib.hid m2
  obtain ⟨i0, hi, hz0, hz1, hz2'⟩ := info_parts infoI
  have s3 : (c.st == 3) = false := eqb_false (by omega)
  have s4 : (c.st == 4) = false := eqb_false (by omega)
  have s2 : (c.st == 2) = false := eqb_false (by omega)
  have hq2 := h1.2.2.2
  have d0 : decide (0 < l.length) = true := decide_eq_true m6
  have d1 : decide ((0 : Int) < (l.length : Int)) = true := decide_eq_true (by omega)
  have hst0 : (c.st == 0) = false := eqb_false (by omega)
  have h2 := (h1.al (.cells #[.int .i8 c.st, .int .i64 c.pid, .int .i64 c.ep, .int .i64 c.tm, .int .i64 c.th, .slice A1 c.ps.length c1, .slice D1 c.qs.length e1, .int .i64 c.ag] 26)).al (.cells #[.int .i8 0, .int .i64 0, .int .i64 0, .int .i64 0, .int .i64 0, .slice none 0 0, .slice none 0 0, .int .i64 0] 26)
  have hm := May_any c A1 D1 c1 e1 _ _ h2 (Nat.le_refl _)
  rw [m1] at hm
  have HM := Lib.hid hm
  have HB := Lib.hid (bal (bal (Below.refl w.heap.size w) (.cells #[.int .i8 c.st, .int .i64 c.pid, .int .i64 c.ep, .int .i64 c.tm, .int .i64 c.th, .slice A1 c.ps.length c1, .slice D1 c.qs.length e1, .int .i64 c.ag] 26)) (.cells #[.int .i8 0, .int .i64 0, .int .i64 0, .int .i64 0, .int .i64 0, .slice none 0 0, .slice none 0 0, .int .i64 0] 26))
  have K1 := Lib.hid ((Blk.new w 26 #[.int .i8 c.st, .int .i64 c.pid, .int .i64 c.ep, .int .i64 c.tm, .int .i64 c.th, .slice A1 c.ps.length c1, .slice D1 c.qs.length e1, .int .i64 c.ag]).alloc (.cells #[.int .i8 0, .int .i64 0, .int .i64 0, .int .i64 0, .int .i64 0, .slice none 0 0, .slice none 0 0, .int .i64 0] 26))
  have kk := Blk.new (w.alloc (.cells #[.int .i8 c.st, .int .i64 c.pid, .int .i64 c.ep, .int .i64 c.tm, .int .i64 c.th, .slice A1 c.ps.length c1, .slice D1 c.qs.length e1, .int .i64 c.ag] 26)) 26 #[.int .i8 0, .int .i64 0, .int .i64 0, .int .i64 0, .int .i64 0, .slice none 0 0, .slice none 0 0, .int .i64 0]
  rw [World.size_alloc] at kk
  have K2 := Lib.hid kk
  have HR := Lib.hid hr
  have H1 := Lib.hid h1
  clear h2 hm kk h1 hr m1 m2 m3 he hco m5 m6
  go_enter Tryd.func20, Tryd.ntmps20
  go_wp2_with fail
  refine HM.out.mono ?_
  rintro e w2 ⟨rfl, b2⟩
  have hz2 := b2.size
  simp only [World.size_alloc] at hz2
  have bf := btrans HB.out b2
  have hap := areParts_any AL l cl w.heap.size w2 (HR.out.below bf) (by omega)
  rw [P1.out] at hap
  have HAP := Lib.hid hap
  clear hap
  go_wp2_with fail
  refine HAP.out.mono ?_
  rintro e w3 ⟨rfl, q, rfl⟩
  have bq := below_drewN bf q
  have k5 := (K1.out.below b2 (by simp only [World.size_alloc]; omega)).drewN q
  have k6 := (K2.out.below b2 (by simp only [World.size_alloc]; omega)).drewN q
  have hz3 : w.heap.size + 1 + 1 ≤ (w2.drewN q).heap.size := hz2
  generalize w2.drewN q = w3 at *
  have own0 := own_any c A1 D1 c1 e1 w3 (H1.out.up bq)
  have HOWN := Lib.hid own0
  clear own0
  have x0 := k5.cell 0
  have x1 := k5.cell 1
  have x2 := k5.cell 2
  have x3 := k5.cell 3
  have x4 := k5.cell 4
  have x5 := k5.cell 5
  have x6 := k5.cell 6
  have x7 := k5.cell 7
  go_wp2_with fail
  refine HOWN.out.mono ?_
  rintro e w4 ⟨A3, D3, c3, e3, rfl, r3, b3, f3, g3⟩
  have bg := btrans bq b3
  have hz4 := b3.size
  have ko := Blk.new w4 26 #[.int .i8 c.st, .int .i64 c.pid, .int .i64 c.ep, .int .i64 c.tm, .int .i64 c.th, .slice A3 c.ps.length c3, .slice D3 c.qs.length e3, .int .i64 c.ag]
  have RL := Lib.hid ((HR.out.below (bal bg (.cells #[.int .i8 c.st, .int .i64 c.pid, .int .i64 c.ep, .int .i64 c.tm, .int .i64 c.th, .slice A3 c.ps.length c3, .slice D3 c.qs.length e3, .int .i64 c.ag] 26))))
  have KO := Lib.hid ko
  have R3 := Lib.hid r3
  clear ko
  go_wp2_with (at_builtin; refine wpList_append_any _ rfl (.const (.slice none 0 0)) (.tmp 27) 23 rfl (w4.heap.size + 1) 3 i0 (.int .i64 0) 1 8 Tryd.underlying23 hi hz0 hz1 hz2' rfl (by decide) (.slice none 0 0) 0 [] rfl (World.ownsRow_nil _ _ _ _) w.heap.size AL l.length cl (cellsI .i64 l) rfl RL.out (cellsI_one _) (by unfold maxLen; omega) (by omega) (by simp) ?_; intro v5 w5 hown5 hg5 hat5; rw [Nat.zero_add, List.nil_append] at hown5; obtain ⟨A5, c5, rfl, hc5⟩ := own_slice hown5; have hgz := hg5.size; rw [World.size_alloc] at hgz; have k7 := ((k5.below b3 (by omega)).alloc (.cells #[.int .i8 c.st, .int .i64 c.pid, .int .i64 c.ep, .int .i64 c.tm, .int .i64 c.th, .slice A3 c.ps.length c3, .slice D3 c.qs.length e3, .int .i64 c.ag] 26)).grown hg5 (by simp [Value.ownBlock]); have k8 := ((k6.below b3 (by omega)).alloc (.cells #[.int .i8 c.st, .int .i64 c.pid, .int .i64 c.ep, .int .i64 c.tm, .int .i64 c.th, .slice A3 c.ps.length c3, .slice D3 c.qs.length e3, .int .i64 c.ag] 26)).grown hg5 (by simp [Value.ownBlock]); have k9 := KO.out.grown hg5 (by simp [Value.ownBlock]); have bh : Below w.heap.size w w5 := (bal bg (.cells #[.int .i8 c.st, .int .i64 c.pid, .int .i64 c.ep, .int .i64 c.tm, .int .i64 c.th, .slice A3 c.ps.length c3, .slice D3 c.qs.length e3, .int .i64 c.ag] 26)).grown hg5 (by have := bg.size; simp; omega) (fun k e => by simp [Value.ownBlock] at e); have rd5 : Reads w5 w4.heap.size 3 D3 c.qs.length (cellsP c.qs) := (R3.out.2.1.alloc (Nat.le_refl _) _).grown hg5 (by simp) (fun k e => by simp [Value.ownBlock] at e); have rp5 := Reads.of_own hown5; have np5 := newAt_of_own hown5; clear x0 x1 x2 x3 x4 x5 x6 x7; have x0 := k7.cell 0; have y0 := k8.cell 0; have z0 := k8.frozen 0; have t0 := k9.cell 0; have s0' := k9.frozen 0; have y1 := k8.cell 1; have z1 := k8.frozen 1; have t1 := k9.cell 1; have s1' := k9.frozen 1; have y2 := k8.cell 2; have z2 := k8.frozen 2; have t2 := k9.cell 2; have s2' := k9.frozen 2; have y3 := k8.cell 3; have z3 := k8.frozen 3; have t3 := k9.cell 3; have s3' := k9.frozen 3; have y4 := k8.cell 4; have z4 := k8.frozen 4; have t4 := k9.cell 4; have s4' := k9.frozen 4; have y5 := k8.cell 5; have z5 := k8.frozen 5; have t5 := k9.cell 5; have s5' := k9.frozen 5; have y6 := k8.cell 6; have z6 := k8.frozen 6; have t6 := k9.cell 6; have s6' := k9.frozen 6; have y7 := k8.cell 7; have z7 := k8.frozen 7; have t7 := k9.cell 7; have s7' := k9.frozen 7; have ne1 : ¬ w.heap.size + 1 = w4.heap.size := (by omega); have ne2 : ¬ w4.heap.size = w.heap.size + 1 := (by omega); have ne3 : ¬ w.heap.size = w4.heap.size := (by omega); have ne4 : ¬ w4.heap.size = w.heap.size := (by omega); clear hown5 hg5 hat5)
  refine bodyPost_ret (v := .tuple #[.agg #[.int .i8 2, .int .i64 c.pid, .int .i64 c.ep, .int .i64 c.tm, .int .i64 c.th, .slice A5 l.length c5, .slice D3 c.qs.length e3, .int .i64 c.ag], .int .i64 0]) (by simp [results, Tryd.results20, go_sem, y0, y1, y2, y3, y4, y5, y6, y7, t0, t1, t2, t3, t4, t5, t6, t7, ne1, ne2]) rfl ?_
  rw [HE.out, HCO.out]
  have of1 : OffB w4.heap.size l.length A5 := np5.off (by omega)
  have of2 : OffB (w.heap.size + 1) l.length A5 := np5.off (by omega)
  have of3 : OffB w4.heap.size c.qs.length D3 := rd5.offB (Nat.le_refl _)
  have of4 : OffB (w.heap.size + 1) c.qs.length D3 := g3.off (by omega)
  refine ⟨A5, D3, c5, e3, rfl, ⟨?_, ?_, hl, hq2⟩, ?_, np5.mono (by omega), g3.mono (by have := bq.size; omega)⟩
  · exact ((((((((((rp5.off of1 _).off of1 _).off of2 _).off of2 _).off of2 _).off of2 _).off of2 _).off of2 _).off of2 _).off of2 _).more (by simp [World.setCell])
  · exact ((((((((((rd5.off of3 _).off of3 _).off of4 _).off of4 _).off of4 _).off of4 _).off of4 _).off of4 _).off of4 _).off of4 _).more (by simp [World.setCell]; omega)
  · exact (bset (bset (bset (bset (bset (bset (bset (bset (bset (bset bh (by have := bg.size; omega) _) (by have := bg.size; omega) _) (by omega) _) (by omega) _) (by omega) _) (by omega) _) (by omega) _) (by omega) _) (by omega) _) (by omega) _)

set_option maxRecDepth 100000 in
set_option maxHeartbeats 2000000 in
theorem Place_i (c : Co) (A1 D1 : Option Addr) (c1 e1 : Nat) (l : List Int) (AL : Option Addr) (cl : Nat) (w : World) (h1 : CoR w w.heap.size c A1 D1) (hr : Reads w w.heap.size 1 AL l.length (cellsI .i64 l)) (hl : l.length ≤ 1000) (m1 : mayB c = true) (m2 : partsB l = true) (m3 : ¬ c.st = 0 ∨ l.length = 0) (m5 : ¬ (c.st = 2 ∨ c.st = 3 ∨ c.st = 4)) (m6 : l.length = 0) :
    Calls Tryd.prog 20 #[(.agg #[.int .i8 c.st, .int .i64 c.pid, .int .i64 c.ep, .int .i64 c.tm, .int .i64 c.th, .slice A1 c.ps.length c1, .slice D1 c.qs.length e1, .int .i64 c.ag]), .slice AL l.length cl] w (MvPost (placeC c l) (placeE c l) w) := by
  have he : placeE c l = 0 := by unfold placeE; rw [if_neg (by simp [m1, m2]), if_neg (by omega)]
  have hco : placeC c l = { c with ps := l } := by unfold placeC; rw [if_neg (by rw [he]; simp), if_neg (by omega), if_neg (by omega), if_neg (by omega)]
  have HE := Lib.hid he
  have HCO := Lib.hid hco
  have P1 := Lib.hid m2
  obtain ⟨i0, hi, hz0, hz1, hz2'⟩ := info_parts infoI
  have s3 : (c.st == 3) = false := eqb_false (by omega)
  have s4 : (c.st == 4) = false := eqb_false (by omega)
  have s2 : (c.st == 2) = false := eqb_false (by omega)
  have hq2 := h1.2.2.2
  have d0 : decide (0 < l.length) = false := decide_eq_false (by omega)
  have d1 : decide ((0 : Int) < (l.length : Int)) = false := decide_eq_false (by omega)
  have hst0 : (c.st == 0) = false ∨ ((c.st == 0) = true ∧ decide (0 < l.length) = false) := by
    by_cases hx : c.st = 0
    · exact .inr ⟨eqb_true hx, decide_eq_false (by omega)⟩
    · exact .inl (eqb_false hx)
  have h2 := (h1.al (.cells #[.int .i8 c.st, .int .i64 c.pid, .int .i64 c.ep, .int .i64 c.tm, .int .i64 c.th, .slice A1 c.ps.length c1, .slice D1 c.qs.length e1, .int .i64 c.ag] 26)).al (.cells #[.int .i8 0, .int .i64 0, .int .i64 0, .int .i64 0, .int .i64 0, .slice none 0 0, .slice none 0 0, .int .i64 0] 26)
  have hm := May_any c A1 D1 c1 e1 _ _ h2 (Nat.le_refl _)
  rw [m1] at hm
  have HM := Lib.hid hm
  have HB := Lib.hid (bal (bal (Below.refl w.heap.size w) (.cells #[.int .i8 c.st, .int .i64 c.pid, .int .i64 c.ep, .int .i64 c.tm, .int .i64 c.th, .slice A1 c.ps.length c1, .slice D1 c.qs.length e1, .int .i64 c.ag] 26)) (.cells #[.int .i8 0, .int .i64 0, .int .i64 0, .int .i64 0, .int .i64 0, .slice none 0 0, .slice none 0 0, .int .i64 0] 26))
  have K1 := Lib.hid ((Blk.new w 26 #[.int .i8 c.st, .int .i64 c.pid, .int .i64 c.ep, .int .i64 c.tm, .int .i64 c.th, .slice A1 c.ps.length c1, .slice D1 c.qs.length e1, .int .i64 c.ag]).alloc (.cells #[.int .i8 0, .int .i64 0, .int .i64 0, .int .i64 0, .int .i64 0, .slice none 0 0, .slice none 0 0, .int .i64 0] 26))
  have kk := Blk.new (w.alloc (.cells #[.int .i8 c.st, .int .i64 c.pid, .int .i64 c.ep, .int .i64 c.tm, .int .i64 c.th, .slice A1 c.ps.length c1, .slice D1 c.qs.length e1, .int .i64 c.ag] 26)) 26 #[.int .i8 0, .int .i64 0, .int .i64 0, .int .i64 0, .int .i64 0, .slice none 0 0, .slice none 0 0, .int .i64 0]
  rw [World.size_alloc] at kk
  have K2 := Lib.hid kk
  have HR := Lib.hid hr
  have H1 := Lib.hid h1
  clear h2 hm kk h1 hr m1 m2 m3 he hco m5 m6
  go_enter Tryd.func20, Tryd.ntmps20
  go_wp2_with fail
  refine HM.out.mono ?_
  rintro e w2 ⟨rfl, b2⟩
  have hz2 := b2.size
  simp only [World.size_alloc] at hz2
  have bf := btrans HB.out b2
  have hap := areParts_any AL l cl w.heap.size w2 (HR.out.below bf) (by omega)
  rw [P1.out] at hap
  have HAP := Lib.hid hap
  clear hap
  go_wp2_with fail
  refine HAP.out.mono ?_
  rintro e w3 ⟨rfl, q, rfl⟩
  have bq := below_drewN bf q
  have k5 := (K1.out.below b2 (by simp only [World.size_alloc]; omega)).drewN q
  have k6 := (K2.out.below b2 (by simp only [World.size_alloc]; omega)).drewN q
  have hz3 : w.heap.size + 1 + 1 ≤ (w2.drewN q).heap.size := hz2
  generalize w2.drewN q = w3 at *
  have own0 := own_any c A1 D1 c1 e1 w3 (H1.out.up bq)
  have HOWN := Lib.hid own0
  clear own0
  have x0 := k5.cell 0
  have x1 := k5.cell 1
  have x2 := k5.cell 2
  have x3 := k5.cell 3
  have x4 := k5.cell 4
  have x5 := k5.cell 5
  have x6 := k5.cell 6
  have x7 := k5.cell 7
  rcases hst0 with hst0 | ⟨hst0, hst1⟩
  all_goals
    go_wp2_with fail
    refine HOWN.out.mono ?_
    rintro e w4 ⟨A3, D3, c3, e3, rfl, r3, b3, f3, g3⟩
    have bg := btrans bq b3
    have hz4 := b3.size
    have ko := Blk.new w4 26 #[.int .i8 c.st, .int .i64 c.pid, .int .i64 c.ep, .int .i64 c.tm, .int .i64 c.th, .slice A3 c.ps.length c3, .slice D3 c.qs.length e3, .int .i64 c.ag]
    have RL := Lib.hid ((HR.out.below (bal bg (.cells #[.int .i8 c.st, .int .i64 c.pid, .int .i64 c.ep, .int .i64 c.tm, .int .i64 c.th, .slice A3 c.ps.length c3, .slice D3 c.qs.length e3, .int .i64 c.ag] 26))))
    have KO := Lib.hid ko
    have R3 := Lib.hid r3
    clear ko
    go_wp2_with (at_builtin; refine wpList_append_any _ rfl (.const (.slice none 0 0)) (.tmp 27) 23 rfl (w4.heap.size + 1) 3 i0 (.int .i64 0) 1 8 Tryd.underlying23 hi hz0 hz1 hz2' rfl (by decide) (.slice none 0 0) 0 [] rfl (World.ownsRow_nil _ _ _ _) w.heap.size AL l.length cl (cellsI .i64 l) rfl RL.out (cellsI_one _) (by unfold maxLen; omega) (by omega) (by simp) ?_; intro v5 w5 hown5 hg5 hat5; rw [Nat.zero_add, List.nil_append] at hown5; obtain ⟨A5, c5, rfl, hc5⟩ := own_slice hown5; have hgz := hg5.size; rw [World.size_alloc] at hgz; have k7 := ((k5.below b3 (by omega)).alloc (.cells #[.int .i8 c.st, .int .i64 c.pid, .int .i64 c.ep, .int .i64 c.tm, .int .i64 c.th, .slice A3 c.ps.length c3, .slice D3 c.qs.length e3, .int .i64 c.ag] 26)).grown hg5 (by simp [Value.ownBlock]); have k8 := ((k6.below b3 (by omega)).alloc (.cells #[.int .i8 c.st, .int .i64 c.pid, .int .i64 c.ep, .int .i64 c.tm, .int .i64 c.th, .slice A3 c.ps.length c3, .slice D3 c.qs.length e3, .int .i64 c.ag] 26)).grown hg5 (by simp [Value.ownBlock]); have k9 := KO.out.grown hg5 (by simp [Value.ownBlock]); have bh : Below w.heap.size w w5 := (bal bg (.cells #[.int .i8 c.st, .int .i64 c.pid, .int .i64 c.ep, .int .i64 c.tm, .int .i64 c.th, .slice A3 c.ps.length c3, .slice D3 c.qs.length e3, .int .i64 c.ag] 26)).grown hg5 (by have := bg.size; simp; omega) (fun k e => by simp [Value.ownBlock] at e); have rd5 : Reads w5 w4.heap.size 3 D3 c.qs.length (cellsP c.qs) := (R3.out.2.1.alloc (Nat.le_refl _) _).grown hg5 (by simp) (fun k e => by simp [Value.ownBlock] at e); have rp5 := Reads.of_own hown5; have np5 := newAt_of_own hown5; clear x0 x1 x2 x3 x4 x5 x6 x7; have x0 := k7.cell 0; have y0 := k8.cell 0; have z0 := k8.frozen 0; have t0 := k9.cell 0; have s0' := k9.frozen 0; have y1 := k8.cell 1; have z1 := k8.frozen 1; have t1 := k9.cell 1; have s1' := k9.frozen 1; have y2 := k8.cell 2; have z2 := k8.frozen 2; have t2 := k9.cell 2; have s2' := k9.frozen 2; have y3 := k8.cell 3; have z3 := k8.frozen 3; have t3 := k9.cell 3; have s3' := k9.frozen 3; have y4 := k8.cell 4; have z4 := k8.frozen 4; have t4 := k9.cell 4; have s4' := k9.frozen 4; have y5 := k8.cell 5; have z5 := k8.frozen 5; have t5 := k9.cell 5; have s5' := k9.frozen 5; have y6 := k8.cell 6; have z6 := k8.frozen 6; have t6 := k9.cell 6; have s6' := k9.frozen 6; have y7 := k8.cell 7; have z7 := k8.frozen 7; have t7 := k9.cell 7; have s7' := k9.frozen 7; have ne1 : ¬ w.heap.size + 1 = w4.heap.size := (by omega); have ne2 : ¬ w4.heap.size = w.heap.size + 1 := (by omega); have ne3 : ¬ w.heap.size = w4.heap.size := (by omega); have ne4 : ¬ w4.heap.size = w.heap.size := (by omega); clear hown5 hg5 hat5)
    refine bodyPost_ret (v := .tuple #[.agg #[.int .i8 c.st, .int .i64 c.pid, .int .i64 c.ep, .int .i64 c.tm, .int .i64 c.th, .slice A5 l.length c5, .slice D3 c.qs.length e3, .int .i64 c.ag], .int .i64 0]) (by simp [results, Tryd.results20, go_sem, y0, y1, y2, y3, y4, y5, y6, y7, t0, t1, t2, t3, t4, t5, t6, t7, ne1, ne2]) rfl ?_
    rw [HE.out, HCO.out]
    have of1 : OffB w4.heap.size l.length A5 := np5.off (by omega)
    have of2 : OffB (w.heap.size + 1) l.length A5 := np5.off (by omega)
    have of3 : OffB w4.heap.size c.qs.length D3 := rd5.offB (Nat.le_refl _)
    have of4 : OffB (w.heap.size + 1) c.qs.length D3 := g3.off (by omega)
    refine ⟨A5, D3, c5, e3, rfl, ⟨?_, ?_, hl, hq2⟩, ?_, np5.mono (by omega), g3.mono (by have := bq.size; omega)⟩
    · exact (((((((((rp5.off of1 _).off of2 _).off of2 _).off of2 _).off of2 _).off of2 _).off of2 _).off of2 _).off of2 _).more (by simp [World.setCell])
    · exact (((((((((rd5.off of3 _).off of4 _).off of4 _).off of4 _).off of4 _).off of4 _).off of4 _).off of4 _).off of4 _).more (by simp [World.setCell]; omega)
    · exact (bset (bset (bset (bset (bset (bset (bset (bset (bset bh (by have := bg.size; omega) _) (by omega) _) (by omega) _) (by omega) _) (by omega) _) (by omega) _) (by omega) _) (by omega) _) (by omega) _)

theorem Place_any (c : Co) (A1 D1 : Option Addr) (c1 e1 : Nat) (l : List Int) (AL : Option Addr) (cl : Nat) (w : World) (h1 : CoR w w.heap.size c A1 D1) (hr : Reads w w.heap.size 1 AL l.length (cellsI .i64 l)) (hl : l.length ≤ 1000) :
    Calls Tryd.prog 20 #[(.agg #[.int .i8 c.st, .int .i64 c.pid, .int .i64 c.ep, .int .i64 c.tm, .int .i64 c.th, .slice A1 c.ps.length c1, .slice D1 c.qs.length e1, .int .i64 c.ag]), .slice AL l.length cl] w (MvPost (placeC c l) (placeE c l) w) := by
  cases m1 : mayB c
  · exact Place_a c A1 D1 c1 e1 l AL cl w h1 hr hl m1
  cases m2 : partsB l
  · exact Place_b c A1 D1 c1 e1 l AL cl w h1 hr hl m1 m2
  by_cases m3 : c.st = 0 ∧ 0 < l.length
  · exact Place_c c A1 D1 c1 e1 l AL cl w h1 hr hl m1 m2 m3.1 m3.2
  have m4 : ¬ c.st = 0 ∨ l.length = 0 := by omega
  have h : c.st = 3 ∨ c.st = 4 ∨ (c.st = 2 ∧ l.length = 0 ∧ c.qs.length = 0) ∨ (c.st = 2 ∧ l.length = 0 ∧ 0 < c.qs.length) ∨ (c.st = 2 ∧ 0 < l.length) ∨ (¬ (c.st = 2 ∨ c.st = 3 ∨ c.st = 4) ∧ 0 < l.length) ∨ (¬ (c.st = 2 ∨ c.st = 3 ∨ c.st = 4) ∧ l.length = 0) := by omega
  rcases h with h | h | ⟨h, j, k⟩ | ⟨h, j, k⟩ | ⟨h, j⟩ | ⟨h, j⟩ | ⟨h, j⟩
  · exact Place_d3 c A1 D1 c1 e1 l AL cl w h1 hr hl m1 m2 m4 h
  · exact Place_d4 c A1 D1 c1 e1 l AL cl w h1 hr hl m1 m2 m4 h
  · exact Place_e c A1 D1 c1 e1 l AL cl w h1 hr hl m1 m2 m4 h j k
  · exact Place_f c A1 D1 c1 e1 l AL cl w h1 hr hl m1 m2 m4 h j k
  · exact Place_g c A1 D1 c1 e1 l AL cl w h1 hr hl m1 m2 m4 h j
  · exact Place_h c A1 D1 c1 e1 l AL cl w h1 hr hl m1 m2 m4 h j
  · exact Place_i c A1 D1 c1 e1 l AL cl w h1 hr hl m1 m2 m4 h j
end Go.Proofs.YtagclnmchkgpdaaDoor
