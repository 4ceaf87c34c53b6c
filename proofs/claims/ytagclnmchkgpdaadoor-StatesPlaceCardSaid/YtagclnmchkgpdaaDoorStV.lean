/-
  The statement StatesPlace: its walk.
-/
import Derived.Test.YtagclnmchkgpdaaDoorStU
import Derived.Test.YtagclnmchkgpdaaDoorStS
namespace Go.Proofs.YtagclnmchkgpdaaDoor
open Go.RowKit

set_option maxRecDepth 100000 in
set_option maxHeartbeats 2000000 in
theorem plc_a (c : Co) (A1 D1 : Option Addr) (c1 e1 : Nat) (l : List Int) (AL : Option Addr) (cl : Nat) (w : World) (hg : HasET w) (n1 : bigB c = true) :
    Calls Tryd.prog 4 #[(.agg #[.int .i8 c.st, .int .i64 c.pid, .int .i64 c.ep, .int .i64 c.tm, .int .i64 c.th, .slice A1 c.ps.length c1, .slice D1 c.qs.length e1, .int .i64 c.ag]), .slice AL l.length cl] w fun e w' => e = .returned (.bool true) ∧ Below w.heap.size w w' := by
  have HB := Lib.hid (bal (Below.refl w.heap.size w) (.cells #[.int .i8 c.st, .int .i64 c.pid, .int .i64 c.ep, .int .i64 c.tm, .int .i64 c.th, .slice A1 c.ps.length c1, .slice D1 c.qs.length e1, .int .i64 c.ag] 26))
  have K1 := Lib.hid (Blk.new w 26 #[.int .i8 c.st, .int .i64 c.pid, .int .i64 c.ep, .int .i64 c.tm, .int .i64 c.th, .slice A1 c.ps.length c1, .slice D1 c.qs.length e1, .int .i64 c.ag])
  have G1 := Lib.hid (fun W => Great_any c A1 D1 c1 e1 W)
  have HWK := Lib.hid (fun W (h : Below w.heap.size w W) => wakes_any W (hg.up h))
  rw [n1] at G1
  clear hg n1
  go_enter Tryd.func4, Tryd.ntmps4
  go_wp2_with fail
  refine (G1.out _).mono ?_
  rintro e w1 ⟨rfl, b1⟩
  have bf := btrans HB.out b1
  go_wp2_with fail
  refine (HWK.out _ bf).mono ?_
  rintro e w9 ⟨rfl, b9⟩
  go_wp2_with fail
  go_ret
  exact ⟨rfl, btrans (bf) b9⟩

set_option maxRecDepth 100000 in
set_option maxHeartbeats 2000000 in
theorem plc_b (c : Co) (A1 D1 : Option Addr) (c1 e1 : Nat) (l : List Int) (AL : Option Addr) (cl : Nat) (w : World) (hg : HasET w) (n1 : bigB c = false) (n2 : 40 < l.length) :
    Calls Tryd.prog 4 #[(.agg #[.int .i8 c.st, .int .i64 c.pid, .int .i64 c.ep, .int .i64 c.tm, .int .i64 c.th, .slice A1 c.ps.length c1, .slice D1 c.qs.length e1, .int .i64 c.ag]), .slice AL l.length cl] w fun e w' => e = .returned (.bool true) ∧ Below w.heap.size w w' := by
  have HB := Lib.hid (bal (Below.refl w.heap.size w) (.cells #[.int .i8 c.st, .int .i64 c.pid, .int .i64 c.ep, .int .i64 c.tm, .int .i64 c.th, .slice A1 c.ps.length c1, .slice D1 c.qs.length e1, .int .i64 c.ag] 26))
  have K1 := Lib.hid (Blk.new w 26 #[.int .i8 c.st, .int .i64 c.pid, .int .i64 c.ep, .int .i64 c.tm, .int .i64 c.th, .slice A1 c.ps.length c1, .slice D1 c.qs.length e1, .int .i64 c.ag])
  have G1 := Lib.hid (fun W => Great_any c A1 D1 c1 e1 W)
  have HWK := Lib.hid (fun W (h : Below w.heap.size w W) => wakes_any W (hg.up h))
  rw [n1] at G1
  have d1 : decide ((40 : Int) < (l.length : Int)) = true := decide_eq_true (by omega)
  clear hg n1
  go_enter Tryd.func4, Tryd.ntmps4
  go_wp2_with fail
  refine (G1.out _).mono ?_
  rintro e w1 ⟨rfl, b1⟩
  have bf := btrans HB.out b1
  go_wp2_with fail
  refine (HWK.out _ bf).mono ?_
  rintro e w9 ⟨rfl, b9⟩
  go_wp2_with fail
  go_ret
  exact ⟨rfl, btrans (bf) b9⟩

set_option maxRecDepth 100000 in
set_option maxHeartbeats 2000000 in
theorem plc_c (c : Co) (A1 D1 : Option Addr) (c1 e1 : Nat) (l : List Int) (AL : Option Addr) (cl : Nat) (w : World) (hg : HasET w) (h1 : CoR w w.heap.size c A1 D1) (s1 : -128 ≤ c.st) (s2 : c.st ≤ 127) (n1 : bigB c = false) (n2 : l.length ≤ 40) (n3 : mayB c = false) :
    Calls Tryd.prog 4 #[(.agg #[.int .i8 c.st, .int .i64 c.pid, .int .i64 c.ep, .int .i64 c.tm, .int .i64 c.th, .slice A1 c.ps.length c1, .slice D1 c.qs.length e1, .int .i64 c.ag]), .slice AL l.length cl] w fun e w' => e = .returned (.bool true) ∧ Below w.heap.size w w' := by
  have HB := Lib.hid (bal (Below.refl w.heap.size w) (.cells #[.int .i8 c.st, .int .i64 c.pid, .int .i64 c.ep, .int .i64 c.tm, .int .i64 c.th, .slice A1 c.ps.length c1, .slice D1 c.qs.length e1, .int .i64 c.ag] 26))
  have K1 := Lib.hid (Blk.new w 26 #[.int .i8 c.st, .int .i64 c.pid, .int .i64 c.ep, .int .i64 c.tm, .int .i64 c.th, .slice A1 c.ps.length c1, .slice D1 c.qs.length e1, .int .i64 c.ag])
  have G1 := Lib.hid (fun W => Great_any c A1 D1 c1 e1 W)
  have HWK := Lib.hid (fun W (h : Below w.heap.size w W) => wakes_any W (hg.up h))
  have HM := Lib.hid (fun W (h : Below w.heap.size w W) => rMay_any c A1 D1 c1 e1 w.heap.size W (h1.below h) h.size s1 s2)
  rw [n1] at G1
  rw [n3] at HM
  have d1 : decide ((40 : Int) < (l.length : Int)) = false := decide_eq_false (by omega)
  clear hg h1 n1 n3
  go_enter Tryd.func4, Tryd.ntmps4
  go_wp2_with fail
  refine (G1.out _).mono ?_
  rintro e w1 ⟨rfl, b1⟩
  have bf := btrans HB.out b1
  have k5 := K1.out.below b1 (by simp)
  have x0 := k5.cell 0
  have x1 := k5.cell 1
  have x2 := k5.cell 2
  have x3 := k5.cell 3
  have x4 := k5.cell 4
  have x5 := k5.cell 5
  have x6 := k5.cell 6
  have x7 := k5.cell 7
  go_wp2_with fail
  refine (HM.out _ bf).mono ?_
  rintro e w2 ⟨rfl, b2⟩
  have bg := btrans bf b2
  go_wp2_with fail
  refine (HWK.out _ bg).mono ?_
  rintro e w9 ⟨rfl, b9⟩
  go_wp2_with fail
  go_ret
  exact ⟨rfl, btrans (bg) b9⟩

set_option maxRecDepth 100000 in
set_option maxHeartbeats 2000000 in
theorem plc_d (c : Co) (A1 D1 : Option Addr) (c1 e1 : Nat) (l : List Int) (AL : Option Addr) (cl : Nat) (w : World) (hg : HasET w) (h1 : CoR w w.heap.size c A1 D1) (hr : Reads w w.heap.size 1 AL l.length (cellsI .i64 l)) (s1 : -128 ≤ c.st) (s2 : c.st ≤ 127) (n1 : bigB c = false) (n2 : l.length ≤ 40) (n3 : mayB c = true) (n4 : ¬ placeE c l = 0) :
    Calls Tryd.prog 4 #[(.agg #[.int .i8 c.st, .int .i64 c.pid, .int .i64 c.ep, .int .i64 c.tm, .int .i64 c.th, .slice A1 c.ps.length c1, .slice D1 c.qs.length e1, .int .i64 c.ag]), .slice AL l.length cl] w fun e w' => e = .returned (.bool true) ∧ Below w.heap.size w w' := by
  have HB := Lib.hid (bal (Below.refl w.heap.size w) (.cells #[.int .i8 c.st, .int .i64 c.pid, .int .i64 c.ep, .int .i64 c.tm, .int .i64 c.th, .slice A1 c.ps.length c1, .slice D1 c.qs.length e1, .int .i64 c.ag] 26))
  have K1 := Lib.hid (Blk.new w 26 #[.int .i8 c.st, .int .i64 c.pid, .int .i64 c.ep, .int .i64 c.tm, .int .i64 c.th, .slice A1 c.ps.length c1, .slice D1 c.qs.length e1, .int .i64 c.ag])
  have G1 := Lib.hid (fun W => Great_any c A1 D1 c1 e1 W)
  have HWK := Lib.hid (fun W (h : Below w.heap.size w W) => wakes_any W (hg.up h))
  have HM := Lib.hid (fun W (h : Below w.heap.size w W) => rMay_any c A1 D1 c1 e1 w.heap.size W (h1.below h) h.size s1 s2)
  have hp0 := fun W (h : Below w.heap.size w W) => Place_any c A1 D1 c1 e1 c.ps A1 c1 W (h1.up h) ((h1.up h).1) h1.2.2.1
  rw [place_own n3, place_own_e n3] at hp0
  have HP0 := Lib.hid hp0
  have HP1 := Lib.hid (fun W (h : Below w.heap.size w W) => Place_any c A1 D1 c1 e1 l AL cl W (h1.up h) ((hr.below h).more h.size) (by omega))
  have HR := Lib.hid hr
  have hsm := same_refl c
  have HSM := Lib.hid (fun (A3 D3 : Option Addr) (c3 e3 B3 : Nat) W (h : Below w.heap.size w W) (r3 : CoR W B3 c A3 D3) (hB : B3 ≤ W.heap.size) => Same_any c c A3 D3 c3 e3 A1 D1 c1 e1 B3 w.heap.size W r3 (h1.below h) hB h.size)
  rw [hsm] at HSM
  rw [n1] at G1
  rw [n3] at HM
  have d1 : decide ((40 : Int) < (l.length : Int)) = false := decide_eq_false (by omega)
  have hne := ne_true n4
  have herr := place_err n3 n4
  have hco : placeC c l = Co0 := by unfold placeC; rw [if_pos n4]
  have HCO := Lib.hid hco
  have d2 : (placeE c l == 2) = true ∨ ((placeE c l == 2) = false ∧ (c.st == 0) = true) := by
    rcases herr with h | ⟨h, h0⟩
    · exact .inl (eqb_true h)
    · exact .inr ⟨eqb_false (by omega), eqb_true h0⟩
  clear hp0 hsm hg h1 hr n1 n3 n4 herr hco
  generalize placeE c l = pe at *
  generalize placeC c l = pc at *
  go_enter Tryd.func4, Tryd.ntmps4
  go_wp2_with fail
  refine (G1.out _).mono ?_
  rintro e w1 ⟨rfl, b1⟩
  have bf := btrans HB.out b1
  have k5 := K1.out.below b1 (by simp)
  have x0 := k5.cell 0
  have x1 := k5.cell 1
  have x2 := k5.cell 2
  have x3 := k5.cell 3
  have x4 := k5.cell 4
  have x5 := k5.cell 5
  have x6 := k5.cell 6
  have x7 := k5.cell 7
  go_wp2_with fail
  refine (HM.out _ bf).mono ?_
  rintro e w2 ⟨rfl, b2⟩
  have bg := btrans bf b2
  have hz1 := b1.size
  rw [World.size_alloc] at hz1
  have k6 := k5.below b2 (by omega)
  clear x0 x1 x2 x3 x4 x5 x6 x7
  have x0 := k6.cell 0
  have x1 := k6.cell 1
  have x2 := k6.cell 2
  have x3 := k6.cell 3
  have x4 := k6.cell 4
  have x5 := k6.cell 5
  have x6 := k6.cell 6
  have x7 := k6.cell 7
  go_wp2_with fail
  refine (HP0.out _ bg).mono ?_
  rintro e w3 ⟨A3, D3, c3, e3, rfl, r3, b3, _, _⟩
  have bh := btrans bg b3
  have hz2 := b2.size
  have hz3 := b3.size
  have k7 := (k6.below b3 (by omega)).alloc (.cells #[.int .i8 c.st, .int .i64 c.pid, .int .i64 c.ep, .int .i64 c.tm, .int .i64 c.th, .slice A3 c.ps.length c3, .slice D3 c.qs.length e3, .int .i64 c.ag] 26)
  have bi := bal bh (.cells #[.int .i8 c.st, .int .i64 c.pid, .int .i64 c.ep, .int .i64 c.tm, .int .i64 c.th, .slice A3 c.ps.length c3, .slice D3 c.qs.length e3, .int .i64 c.ag] 26)
  have r4 := r3.al (.cells #[.int .i8 c.st, .int .i64 c.pid, .int .i64 c.ep, .int .i64 c.tm, .int .i64 c.th, .slice A3 c.ps.length c3, .slice D3 c.qs.length e3, .int .i64 c.ag] 26)
  clear x0 x1 x2 x3 x4 x5 x6 x7
  have x0 := k7.cell 0
  have x1 := k7.cell 1
  have x2 := k7.cell 2
  have x3 := k7.cell 3
  have x4 := k7.cell 4
  have x5 := k7.cell 5
  have x6 := k7.cell 6
  have x7 := k7.cell 7
  go_wp2_with fail
  refine (HSM.out A3 D3 c3 e3 _ _ bi r4 (Nat.le_refl _)).mono ?_
  rintro e w4 ⟨rfl, b4⟩
  have bj := btrans bi b4
  have hz4 := b4.size
  rw [World.size_alloc] at hz4
  have k8 := k7.below b4 (by simp; omega)
  clear x0 x1 x2 x3 x4 x5 x6 x7
  have x0 := k8.cell 0
  have x1 := k8.cell 1
  have x2 := k8.cell 2
  have x3 := k8.cell 3
  have x4 := k8.cell 4
  have x5 := k8.cell 5
  have x6 := k8.cell 6
  have x7 := k8.cell 7
  go_wp2_with fail
  refine (HP1.out _ bj).mono ?_
  rintro e w5 ⟨A5, D5, c5, e5, rfl, r5, b5, _, _⟩
  have bk := btrans bj b5
  have hz5 := b5.size
  have k9 := (k8.below b5 (by omega))
  have k10 := k9.alloc (.cells #[.int .i8 pc.st, .int .i64 pc.pid, .int .i64 pc.ep, .int .i64 pc.tm, .int .i64 pc.th, .slice A5 pc.ps.length c5, .slice D5 pc.qs.length e5, .int .i64 pc.ag] 26)
  have bl := bal bk (.cells #[.int .i8 pc.st, .int .i64 pc.pid, .int .i64 pc.ep, .int .i64 pc.tm, .int .i64 pc.th, .slice A5 pc.ps.length c5, .slice D5 pc.qs.length e5, .int .i64 pc.ag] 26)
  clear x0 x1 x2 x3 x4 x5 x6 x7
  have x0 := k10.cell 0
  rcases d2 with d2 | ⟨d2, d3⟩
  · go_wp2_with fail
    refine (HWK.out _ bl).mono ?_
    rintro e w9 ⟨rfl, b9⟩
    go_wp2_with fail
    go_ret
    exact ⟨rfl, btrans bl b9⟩
  · go_wp2_with fail
    refine (HWK.out _ bl).mono ?_
    rintro e w9 ⟨rfl, b9⟩
    go_wp2_with fail
    go_ret
    exact ⟨rfl, btrans bl b9⟩

set_option maxRecDepth 100000 in
set_option maxHeartbeats 2000000 in
theorem plc_e (c : Co) (A1 D1 : Option Addr) (c1 e1 : Nat) (l : List Int) (AL : Option Addr) (cl : Nat) (w : World) (hg : HasET w) (h1 : CoR w w.heap.size c A1 D1) (hr : Reads w w.heap.size 1 AL l.length (cellsI .i64 l)) (s1 : -128 ≤ c.st) (s2 : c.st ≤ 127) (n1 : bigB c = false) (n2 : l.length ≤ 40) (n3 : mayB c = true) (n4 : placeE c l = 0) :
    Calls Tryd.prog 4 #[(.agg #[.int .i8 c.st, .int .i64 c.pid, .int .i64 c.ep, .int .i64 c.tm, .int .i64 c.th, .slice A1 c.ps.length c1, .slice D1 c.qs.length e1, .int .i64 c.ag]), .slice AL l.length cl] w fun e w' => e = .returned (.bool true) ∧ Below w.heap.size w w' := by
  have HB := Lib.hid (bal (Below.refl w.heap.size w) (.cells #[.int .i8 c.st, .int .i64 c.pid, .int .i64 c.ep, .int .i64 c.tm, .int .i64 c.th, .slice A1 c.ps.length c1, .slice D1 c.qs.length e1, .int .i64 c.ag] 26))
  have K1 := Lib.hid (Blk.new w 26 #[.int .i8 c.st, .int .i64 c.pid, .int .i64 c.ep, .int .i64 c.tm, .int .i64 c.th, .slice A1 c.ps.length c1, .slice D1 c.qs.length e1, .int .i64 c.ag])
  have G1 := Lib.hid (fun W => Great_any c A1 D1 c1 e1 W)
  have HWK := Lib.hid (fun W (h : Below w.heap.size w W) => wakes_any W (hg.up h))
  have HM := Lib.hid (fun W (h : Below w.heap.size w W) => rMay_any c A1 D1 c1 e1 w.heap.size W (h1.below h) h.size s1 s2)
  have hp0 := fun W (h : Below w.heap.size w W) => Place_any c A1 D1 c1 e1 c.ps A1 c1 W (h1.up h) ((h1.up h).1) h1.2.2.1
  rw [place_own n3, place_own_e n3] at hp0
  have HP0 := Lib.hid hp0
  have HP1 := Lib.hid (fun W (h : Below w.heap.size w W) => Place_any c A1 D1 c1 e1 l AL cl W (h1.up h) ((hr.below h).more h.size) (by omega))
  have HR := Lib.hid hr
  have hsm := same_refl c
  have HSM := Lib.hid (fun (A3 D3 : Option Addr) (c3 e3 B3 : Nat) W (h : Below w.heap.size w W) (r3 : CoR W B3 c A3 D3) (hB : B3 ≤ W.heap.size) => Same_any c c A3 D3 c3 e3 A1 D1 c1 e1 B3 w.heap.size W r3 (h1.below h) hB h.size)
  rw [hsm] at HSM
  rw [n1] at G1
  rw [n3] at HM
  have d1 : decide ((40 : Int) < (l.length : Int)) = false := decide_eq_false (by omega)
  obtain ⟨q1, q2, q3, q4, q5, q6⟩ := place_may n3 n4
  rw [n4] at HP1
  obtain ⟨pc, hpc⟩ : ∃ pc, placeC c l = pc := ⟨_, rfl⟩
  rw [hpc] at HP1 q1 q2 q3 q4 q5 q6
  have v1 : ((pc.ps.length : Int) != (l.length : Int)) = false := ne_false (by rw [q2])
  have v2 : ((pc.qs.length : Int) != (c.qs.length : Int)) = false := ne_false (by rw [q3])
  have v3 := ne_false q4
  have v4 := ne_false q5
  have v5 := ne_false q6
  have lq1 : l.length ≤ pc.ps.length := by rw [q2]; omega
  have lq2 : pc.ps.length ≤ 40 := by rw [q2]; omega
  have Q2 := Lib.hid q2
  have HMD := Lib.hid (fun (A5 D5 : Option Addr) (c5 e5 B5 : Nat) W (r5 : CoR W B5 pc A5 D5) (hB : B5 ≤ W.heap.size) => May_any pc A5 D5 c5 e5 B5 W r5 hB)
  rw [q1] at HMD
  clear hp0 hsm hg h1 hr n1 n3 n4 q1 q2 q3 q4 q5 q6 hpc
  go_enter Tryd.func4, Tryd.ntmps4
  go_wp2_with fail
  refine (G1.out _).mono ?_
  rintro e w1 ⟨rfl, b1⟩
  have bf := btrans HB.out b1
  have k5 := K1.out.below b1 (by simp)
  have x0 := k5.cell 0
  have x1 := k5.cell 1
  have x2 := k5.cell 2
  have x3 := k5.cell 3
  have x4 := k5.cell 4
  have x5 := k5.cell 5
  have x6 := k5.cell 6
  have x7 := k5.cell 7
  go_wp2_with fail
  refine (HM.out _ bf).mono ?_
  rintro e w2 ⟨rfl, b2⟩
  have bg := btrans bf b2
  have hz1 := b1.size
  rw [World.size_alloc] at hz1
  have k6 := k5.below b2 (by omega)
  clear x0 x1 x2 x3 x4 x5 x6 x7
  have x0 := k6.cell 0
  have x1 := k6.cell 1
  have x2 := k6.cell 2
  have x3 := k6.cell 3
  have x4 := k6.cell 4
  have x5 := k6.cell 5
  have x6 := k6.cell 6
  have x7 := k6.cell 7
  go_wp2_with fail
  refine (HP0.out _ bg).mono ?_
  rintro e w3 ⟨A3, D3, c3, e3, rfl, r3, b3, _, _⟩
  have bh := btrans bg b3
  have hz2 := b2.size
  have hz3 := b3.size
  have k7 := (k6.below b3 (by omega)).alloc (.cells #[.int .i8 c.st, .int .i64 c.pid, .int .i64 c.ep, .int .i64 c.tm, .int .i64 c.th, .slice A3 c.ps.length c3, .slice D3 c.qs.length e3, .int .i64 c.ag] 26)
  have bi := bal bh (.cells #[.int .i8 c.st, .int .i64 c.pid, .int .i64 c.ep, .int .i64 c.tm, .int .i64 c.th, .slice A3 c.ps.length c3, .slice D3 c.qs.length e3, .int .i64 c.ag] 26)
  have r4 := r3.al (.cells #[.int .i8 c.st, .int .i64 c.pid, .int .i64 c.ep, .int .i64 c.tm, .int .i64 c.th, .slice A3 c.ps.length c3, .slice D3 c.qs.length e3, .int .i64 c.ag] 26)
  clear x0 x1 x2 x3 x4 x5 x6 x7
  have x0 := k7.cell 0
  have x1 := k7.cell 1
  have x2 := k7.cell 2
  have x3 := k7.cell 3
  have x4 := k7.cell 4
  have x5 := k7.cell 5
  have x6 := k7.cell 6
  have x7 := k7.cell 7
  go_wp2_with fail
  refine (HSM.out A3 D3 c3 e3 _ _ bi r4 (Nat.le_refl _)).mono ?_
  rintro e w4 ⟨rfl, b4⟩
  have bj := btrans bi b4
  have hz4 := b4.size
  rw [World.size_alloc] at hz4
  have k8 := k7.below b4 (by simp; omega)
  clear x0 x1 x2 x3 x4 x5 x6 x7
  have x0 := k8.cell 0
  have x1 := k8.cell 1
  have x2 := k8.cell 2
  have x3 := k8.cell 3
  have x4 := k8.cell 4
  have x5 := k8.cell 5
  have x6 := k8.cell 6
  have x7 := k8.cell 7
  go_wp2_with fail
  refine (HP1.out _ bj).mono ?_
  rintro e w5 ⟨A5, D5, c5, e5, rfl, r5, b5, _, _⟩
  have bk := btrans bj b5
  have hz5 := b5.size
  have k9 := (k8.below b5 (by omega))
  have k10 := k9.alloc (.cells #[.int .i8 pc.st, .int .i64 pc.pid, .int .i64 pc.ep, .int .i64 pc.tm, .int .i64 pc.th, .slice A5 pc.ps.length c5, .slice D5 pc.qs.length e5, .int .i64 pc.ag] 26)
  have kd := Blk.new w5 26 #[.int .i8 pc.st, .int .i64 pc.pid, .int .i64 pc.ep, .int .i64 pc.tm, .int .i64 pc.th, .slice A5 pc.ps.length c5, .slice D5 pc.qs.length e5, .int .i64 pc.ag]
  have bl := bal bk (.cells #[.int .i8 pc.st, .int .i64 pc.pid, .int .i64 pc.ep, .int .i64 pc.tm, .int .i64 pc.th, .slice A5 pc.ps.length c5, .slice D5 pc.qs.length e5, .int .i64 pc.ag] 26)
  have r6 := r5.al (.cells #[.int .i8 pc.st, .int .i64 pc.pid, .int .i64 pc.ep, .int .i64 pc.tm, .int .i64 pc.th, .slice A5 pc.ps.length c5, .slice D5 pc.qs.length e5, .int .i64 pc.ag] 26)
  clear x0 x1 x2 x3 x4 x5 x6 x7
  go_wp2_with fail
  refine (HMD.out A5 D5 c5 e5 _ _ r6 (Nat.le_refl _)).mono ?_
  rintro e w6 ⟨rfl, b6⟩
  have bm := btrans bl b6
  have hz6 := b6.size
  rw [World.size_alloc] at hz6
  have k11 := k10.below b6 (by simp; omega)
  have ke := kd.below b6 (by simp)
  have r7 := r6.up b6
  have x1 := k11.cell 1
  have u1 := ke.cell 1
  have x2 := k11.cell 2
  have u2 := ke.cell 2
  have x3 := k11.cell 3
  have u3 := ke.cell 3
  have x6 := k11.cell 6
  have u6 := ke.cell 6
  have u5 := ke.cell 5
  go_wp2_with fail
  have hw5 : w5.heap.size < w6.heap.size := by omega
  have KE := Lib.hid ke
  have R7 := Lib.hid r7
  clear x1 x2 x3 x6 u1 u2 u3 u5 u6 k5 k6 k7 k8 k9 k10 k11 kd ke r3 r4 r5 r6 r7
  go_loopw [9] (fun y wr => ∃ k : Nat, k ≤ l.length ∧ y = .int .i64 k ∧ Below w6.heap.size w6 wr) (fun y _ => l.length - (intOf y).toNat)
  case atStart => exact ⟨0, Nat.zero_le _, rfl, Below.refl _ _⟩
  case round =>
    obtain ⟨k, hk, rfl, hbel⟩ := hrel
    have HBEL := Lib.hid hbel
    have bn := btrans bm hbel
    by_cases hlt : k < l.length
    · have f1 : decide ((k : Int) < (l.length : Int)) = true := by simp; omega
      have kf := KE.out.below hbel hw5
      have r8 := R7.out.up hbel
      obtain ⟨bb, oo, rfl, hbb, hcl⟩ := (HR.out.below bn).plain (by omega)
      obtain ⟨b5', o5, rfl, hb5, hc5⟩ := r8.1.plain (by omega)
      obtain ⟨x, hx⟩ : ∃ z, l[k]? = some z := ⟨_, List.getElem?_eq_getElem hlt⟩
      have hx5 : pc.ps[k]? = some x := by rw [Q2.out]; exact hx
      have g1 := bw_cell (B := wr.heap.size) (hcl k _ (by rw [getElem?_cellsI, hx]; rfl)) (by have := bn.size; omega)
      have g2 := bw_cell (B := wr.heap.size) (hc5 k _ (by rw [getElem?_cellsI, hx5]; rfl)) hb5
      have hlt5 : w5.heap.size < wr.heap.size := by have := hbel.size; omega
      have p0 := bw_cell (B := wr.heap.size) (kf.cell 0) hlt5
      have p1 := bw_cell (B := wr.heap.size) (kf.cell 1) hlt5
      have p2 := bw_cell (B := wr.heap.size) (kf.cell 2) hlt5
      have p3 := bw_cell (B := wr.heap.size) (kf.cell 3) hlt5
      have p4 := bw_cell (B := wr.heap.size) (kf.cell 4) hlt5
      have p5 := bw_cell (B := wr.heap.size) (kf.cell 5) hlt5
      have p6 := bw_cell (B := wr.heap.size) (kf.cell 6) hlt5
      have p7 := bw_cell (B := wr.heap.size) (kf.cell 7) hlt5
      have hin : decide (x ∈ pc.ps) = true := decide_eq_true (List.mem_of_getElem? hx5)
      have hhas := fun (n : BW wr.heap.size wr) => Has_any pc (some ⟨b5', o5, none⟩) D5 c5 e5 x wr.heap.size n.1 (r8.below n.2) n.2.size
      rw [hin] at hhas
      have HHAS := Lib.hid hhas
      have i1 : (0 : Int) ≤ (k : Int) := by omega
      have i2 : (k : Int) < (l.length : Int) := by omega
      have i3 : (k : Int) < (pc.ps.length : Int) := by omega
      clear hcl hc5 hx hx5 hin hhas hbel
      go_wp2_with fail
      refine wp_region_bq wr.heap.size (by kernel_rfl) (by kernel_rfl) ?_
      repeat (go_big_quiet_step ((go_at_call 16; exact bw_call (Nat.le_refl _) (HHAS.out _))))
      refine wpQuiet_nil ?_
      rintro _ ⟨n, rfl⟩
      have hn := n.2
      generalize n.1 = W at *
      go_wp2_with fail
      go_roundw
      case rel => exact ⟨k + 1, by omega, by go_num, btrans HBEL.out hn⟩
      case measure => simp [intOf]; omega
    · have f1 : decide ((k : Int) < (l.length : Int)) = false := by simp; omega
      clear hbel
      go_wp2_with fail
      refine (HWK.out _ bn).mono ?_
      rintro e w9 ⟨rfl, b9⟩
      go_wp2_with fail
      go_ret
      exact ⟨rfl, btrans bn b9⟩

theorem plc_walk (c : Co) (A1 D1 : Option Addr) (c1 e1 : Nat) (l : List Int) (AL : Option Addr) (cl : Nat) (w : World) (hg : HasET w) (h1 : CoRaw w c A1 D1) (hr : Reads w w.heap.size 1 AL l.length (cellsI .i64 l)) :
    Calls Tryd.prog 4 #[(.agg #[.int .i8 c.st, .int .i64 c.pid, .int .i64 c.ep, .int .i64 c.tm, .int .i64 c.th, .slice A1 c.ps.length c1, .slice D1 c.qs.length e1, .int .i64 c.ag]), .slice AL l.length cl] w fun e w' => e = .returned (.bool true) ∧ Below w.heap.size w w' := by
  cases n1 : bigB c
  · rcases Nat.lt_or_ge 40 l.length with n2 | n2
    · exact plc_b c A1 D1 c1 e1 l AL cl w hg n1 n2
    · cases n3 : mayB c
      · exact plc_c c A1 D1 c1 e1 l AL cl w hg (h1.small n1) h1.2.2.1 h1.2.2.2 n1 n2 n3
      · by_cases n4 : placeE c l = 0
        · exact plc_e c A1 D1 c1 e1 l AL cl w hg (h1.small n1) hr h1.2.2.1 h1.2.2.2 n1 n2 n3 n4
        · exact plc_d c A1 D1 c1 e1 l AL cl w hg (h1.small n1) hr h1.2.2.1 h1.2.2.2 n1 n2 n3 n4
  · exact plc_a c A1 D1 c1 e1 l AL cl w hg n1
end Go.Proofs.YtagclnmchkgpdaaDoor
