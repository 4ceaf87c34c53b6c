/-
  The card of StatesMove is proved: for every input the call returns true, and each argument reads as before. No condition but the row's own list, which the card ties to the program's text.
  The statement StatesMove: its walk.
-/
import Derived.Test.YtagclnmchkgpdaaDoorSaMoveProofPart5
import Derived.Test.YtagclnmchkgpdaaDoorGrp12
set_option linter.unusedVariables false
set_option linter.unusedSimpArgs false
namespace Go.Proofs.YtagclnmchkgpdaaDoor
open Go.RowKit
theorem own_empty {w : World} {b : Nat} (h : b = w.heap.size) (e : TypeId) (size : Nat) : (w.alloc (.cells #[] e)).ownsRow b e size (.slice (some ⟨b, 0, none⟩) 0 0) 0 [] :=
  ⟨by simp, .inr ⟨b, 0, #[], rfl, Nat.le_refl _, by rw [h]; exact Blk.new w e #[], Nat.le_refl _, by decide, by simp, by simp⟩⟩
section
attribute [-go_sem] loadCells storeVar
set_option maxRecDepth 100000 in
set_option maxHeartbeats 2000000 in
theorem mov_a (c : Co) (A1 D1 : Option Addr) (c1 e1 : Nat) (x : Mv) (L1 : Option Addr) (m1 : Nat) (w : World) (hg : HasET w) (n1 : bigB c = true) :
    Calls Tryd.prog 5 #[(.agg #[.int .i8 c.st, .int .i64 c.pid, .int .i64 c.ep, .int .i64 c.tm, .int .i64 c.th, .slice A1 c.ps.length c1, .slice D1 c.qs.length e1, .int .i64 c.ag]), (.agg #[.int .i64 x.k, .int .i64 x.a, .int .i64 x.b, .int .i64 x.p.1, .int .i64 x.p.2.1, .int .i64 x.p.2.2, .bool x.yes, .slice L1 x.l.length m1])] w fun e w' => e = .returned (.bool true) ∧ Below w.heap.size w w' := by
  have HB := Lib.hid (bal (bal (Below.refl w.heap.size w) (.cells #[.int .i8 c.st, .int .i64 c.pid, .int .i64 c.ep, .int .i64 c.tm, .int .i64 c.th, .slice A1 c.ps.length c1, .slice D1 c.qs.length e1, .int .i64 c.ag] 26)) (.cells #[.int .i64 x.k, .int .i64 x.a, .int .i64 x.b, .int .i64 x.p.1, .int .i64 x.p.2.1, .int .i64 x.p.2.2, .bool x.yes, .slice L1 x.l.length m1] 40))
  have K1 := (Blk.new w 26 #[.int .i8 c.st, .int .i64 c.pid, .int .i64 c.ep, .int .i64 c.tm, .int .i64 c.th, .slice A1 c.ps.length c1, .slice D1 c.qs.length e1, .int .i64 c.ag]).alloc (.cells #[.int .i64 x.k, .int .i64 x.a, .int .i64 x.b, .int .i64 x.p.1, .int .i64 x.p.2.1, .int .i64 x.p.2.2, .bool x.yes, .slice L1 x.l.length m1] 40)
  have L0 := bk_load (P := Tryd.prog) 8 K1 rfl
  have G1 := Lib.hid (fun W => Great_any c A1 D1 c1 e1 W)
  have HWK := Lib.hid (fun W (h : Below w.heap.size w W) => wakes_any W (hg.up h))
  rw [n1] at G1
  clear hg n1 K1
  go_enter Tryd.func5, Tryd.ntmps5
  go_wp2_with fail
  refine (G1.out _).mono ?_
  rintro e w1 ⟨rfl, b1⟩
  have bf := btrans HB.out b1
  go_wp2_with fail
  refine (HWK.out _ bf).mono ?_
  rintro e w9 ⟨rfl, b9⟩
  go_wp2_with fail
  go_ret
  exact ⟨rfl, btrans (bf) b9⟩
set_option maxRecDepth 100000 in
set_option maxHeartbeats 2000000 in
theorem mov_b (c : Co) (A1 D1 : Option Addr) (c1 e1 : Nat) (x : Mv) (L1 : Option Addr) (m1 : Nat) (w : World) (hg : HasET w) (n1 : bigB c = false) (n2 : 40 < x.l.length) :
    Calls Tryd.prog 5 #[(.agg #[.int .i8 c.st, .int .i64 c.pid, .int .i64 c.ep, .int .i64 c.tm, .int .i64 c.th, .slice A1 c.ps.length c1, .slice D1 c.qs.length e1, .int .i64 c.ag]), (.agg #[.int .i64 x.k, .int .i64 x.a, .int .i64 x.b, .int .i64 x.p.1, .int .i64 x.p.2.1, .int .i64 x.p.2.2, .bool x.yes, .slice L1 x.l.length m1])] w fun e w' => e = .returned (.bool true) ∧ Below w.heap.size w w' := by
  have HB := Lib.hid (bal (bal (Below.refl w.heap.size w) (.cells #[.int .i8 c.st, .int .i64 c.pid, .int .i64 c.ep, .int .i64 c.tm, .int .i64 c.th, .slice A1 c.ps.length c1, .slice D1 c.qs.length e1, .int .i64 c.ag] 26)) (.cells #[.int .i64 x.k, .int .i64 x.a, .int .i64 x.b, .int .i64 x.p.1, .int .i64 x.p.2.1, .int .i64 x.p.2.2, .bool x.yes, .slice L1 x.l.length m1] 40))
  have K1 := (Blk.new w 26 #[.int .i8 c.st, .int .i64 c.pid, .int .i64 c.ep, .int .i64 c.tm, .int .i64 c.th, .slice A1 c.ps.length c1, .slice D1 c.qs.length e1, .int .i64 c.ag]).alloc (.cells #[.int .i64 x.k, .int .i64 x.a, .int .i64 x.b, .int .i64 x.p.1, .int .i64 x.p.2.1, .int .i64 x.p.2.2, .bool x.yes, .slice L1 x.l.length m1] 40)
  have K2 := Lib.hid (show Blk ((w.alloc (.cells #[.int .i8 c.st, .int .i64 c.pid, .int .i64 c.ep, .int .i64 c.tm, .int .i64 c.th, .slice A1 c.ps.length c1, .slice D1 c.qs.length e1, .int .i64 c.ag] 26)).alloc (.cells #[.int .i64 x.k, .int .i64 x.a, .int .i64 x.b, .int .i64 x.p.1, .int .i64 x.p.2.1, .int .i64 x.p.2.2, .bool x.yes, .slice L1 x.l.length m1] 40)) (w.heap.size + 1) 40 #[.int .i64 x.k, .int .i64 x.a, .int .i64 x.b, .int .i64 x.p.1, .int .i64 x.p.2.1, .int .i64 x.p.2.2, .bool x.yes, .slice L1 x.l.length m1] from bk_new (w.alloc (.cells #[.int .i8 c.st, .int .i64 c.pid, .int .i64 c.ep, .int .i64 c.tm, .int .i64 c.th, .slice A1 c.ps.length c1, .slice D1 c.qs.length e1, .int .i64 c.ag] 26)) 40 #[.int .i64 x.k, .int .i64 x.a, .int .i64 x.b, .int .i64 x.p.1, .int .i64 x.p.2.1, .int .i64 x.p.2.2, .bool x.yes, .slice L1 x.l.length m1] (by simp))
  have L0 := bk_load (P := Tryd.prog) 8 K1 rfl
  have G1 := Lib.hid (fun W => Great_any c A1 D1 c1 e1 W)
  have HWK := Lib.hid (fun W (h : Below w.heap.size w W) => wakes_any W (hg.up h))
  have d1 : decide ((40 : Int) < (x.l.length : Int)) = true := decide_eq_true (by omega)
  rw [n1] at G1
  clear hg n1 K1
  go_enter Tryd.func5, Tryd.ntmps5
  go_wp2_with fail
  refine (G1.out _).mono ?_
  rintro e w1 ⟨rfl, b1⟩
  have bf := btrans HB.out b1
  have k7 := K2.out.below b1 (by simp)
  have x7 := k7.cell 7
  clear k7
  go_wp2_with fail
  refine (HWK.out _ bf).mono ?_
  rintro e w9 ⟨rfl, b9⟩
  go_wp2_with fail
  go_ret
  exact ⟨rfl, btrans (bf) b9⟩
set_option maxRecDepth 100000 in
set_option maxHeartbeats 2000000 in
theorem mov_c (c : Co) (A1 D1 : Option Addr) (c1 e1 : Nat) (x : Mv) (L1 : Option Addr) (m1 : Nat) (w : World) (hg : HasET w) (h1 : CoR w w.heap.size c A1 D1) (h8 : -128 ≤ c.st) (h9 : c.st ≤ 127) (hl : Reads w w.heap.size 1 L1 x.l.length (cellsI .i64 x.l)) (n1 : bigB c = false) (n2 : x.l.length ≤ 40) :
    Calls Tryd.prog 5 #[(.agg #[.int .i8 c.st, .int .i64 c.pid, .int .i64 c.ep, .int .i64 c.tm, .int .i64 c.th, .slice A1 c.ps.length c1, .slice D1 c.qs.length e1, .int .i64 c.ag]), (.agg #[.int .i64 x.k, .int .i64 x.a, .int .i64 x.b, .int .i64 x.p.1, .int .i64 x.p.2.1, .int .i64 x.p.2.2, .bool x.yes, .slice L1 x.l.length m1])] w fun e w' => e = .returned (.bool true) ∧ Below w.heap.size w w' := by
  have HB := Lib.hid (bal (bal (Below.refl w.heap.size w) (.cells #[.int .i8 c.st, .int .i64 c.pid, .int .i64 c.ep, .int .i64 c.tm, .int .i64 c.th, .slice A1 c.ps.length c1, .slice D1 c.qs.length e1, .int .i64 c.ag] 26)) (.cells #[.int .i64 x.k, .int .i64 x.a, .int .i64 x.b, .int .i64 x.p.1, .int .i64 x.p.2.1, .int .i64 x.p.2.2, .bool x.yes, .slice L1 x.l.length m1] 40))
  have K1 := (Blk.new w 26 #[.int .i8 c.st, .int .i64 c.pid, .int .i64 c.ep, .int .i64 c.tm, .int .i64 c.th, .slice A1 c.ps.length c1, .slice D1 c.qs.length e1, .int .i64 c.ag]).alloc (.cells #[.int .i64 x.k, .int .i64 x.a, .int .i64 x.b, .int .i64 x.p.1, .int .i64 x.p.2.1, .int .i64 x.p.2.2, .bool x.yes, .slice L1 x.l.length m1] 40)
  have HK1 := Lib.hid K1
  have HK2 := Lib.hid (show Blk ((w.alloc (.cells #[.int .i8 c.st, .int .i64 c.pid, .int .i64 c.ep, .int .i64 c.tm, .int .i64 c.th, .slice A1 c.ps.length c1, .slice D1 c.qs.length e1, .int .i64 c.ag] 26)).alloc (.cells #[.int .i64 x.k, .int .i64 x.a, .int .i64 x.b, .int .i64 x.p.1, .int .i64 x.p.2.1, .int .i64 x.p.2.2, .bool x.yes, .slice L1 x.l.length m1] 40)) (w.heap.size + 1) 40 #[.int .i64 x.k, .int .i64 x.a, .int .i64 x.b, .int .i64 x.p.1, .int .i64 x.p.2.1, .int .i64 x.p.2.2, .bool x.yes, .slice L1 x.l.length m1] from bk_new (w.alloc (.cells #[.int .i8 c.st, .int .i64 c.pid, .int .i64 c.ep, .int .i64 c.tm, .int .i64 c.th, .slice A1 c.ps.length c1, .slice D1 c.qs.length e1, .int .i64 c.ag] 26)) 40 #[.int .i64 x.k, .int .i64 x.a, .int .i64 x.b, .int .i64 x.p.1, .int .i64 x.p.2.1, .int .i64 x.p.2.2, .bool x.yes, .slice L1 x.l.length m1] (by simp))
  have L0 := bk_load (P := Tryd.prog) 8 K1 rfl
  have G1 := Lib.hid (fun W => Great_any c A1 D1 c1 e1 W)
  have HWK := Lib.hid (fun W (h : Below w.heap.size w W) => wakes_any W (hg.up h))
  have d1 : decide ((40 : Int) < (x.l.length : Int)) = false := decide_eq_false (by omega)
  obtain ⟨i0, hi0, hz0, hz1, hz2⟩ := info_parts infoI
  obtain ⟨j0, hj0, hy0, hy1, hy2⟩ := info_parts infoP
  have hp1 := h1.2.2.1
  have hp2 := h1.2.2.2
  have H1 := Lib.hid h1
  have HL := Lib.hid hl
  have HG := Lib.hid hg
  rw [n1] at G1
  clear hg n1 K1 h1 hl
  go_enter Tryd.func5, Tryd.ntmps5
  go_wp2_with fail
  refine (G1.out _).mono ?_
  rintro e w1 ⟨rfl, b1⟩
  have BF := Lib.hid (btrans HB.out b1)
  have SZ := Lib.hid (show w.heap.size + 1 + 1 ≤ w1.heap.size by have := b1.size; simp at this; omega)
  have K5 := Lib.hid (HK1.out.below b1 (by simp; omega))
  have K7 := Lib.hid (HK2.out.below b1 (by simp))
  have x7 := K7.out.cell 7
  have LA := bk_load (P := Tryd.prog) 8 K5.out rfl
  obtain ⟨W2, st2, kw, b2, s2⟩ := bk_fresh (P := Tryd.prog) w1 26 #[.int .i8 0, .int .i64 0, .int .i64 0, .int .i64 0, .int .i64 0, .slice none 0 0, .slice none 0 0, .int .i64 0] #[.int .i8 c.st, .int .i64 c.pid, .int .i64 c.ep, .int .i64 c.tm, .int .i64 c.th, .slice A1 c.ps.length c1, .slice D1 c.qs.length e1, .int .i64 c.ag] 8 infoCo rfl rfl (by simp [Value.oneCell'])
  clear b1 L0
  have S2 := Lib.hid s2
  have KW := Lib.hid kw
  have B2 := Lib.hid b2
  have BW2 := Lib.hid (btrans BF.out b2)
  have WA := ((K5.out.below b2 K5.out.lt).alloc (.cells #[] 3)).cell 5
  have RA := Lib.hid (show Reads (W2.alloc (.cells #[] 3)) w.heap.size 1 A1 c.ps.length (cellsI .i64 c.ps) from (H1.out.1.below BW2.out).alloc BW2.out.size _)
  have OA := Lib.hid (show (W2.alloc (.cells #[] 3)).ownsRow (w1.heap.size + 1) 3 1 (.slice (some ⟨w1.heap.size + 1, 0, none⟩) 0 0) 0 [] from own_empty (by rw [s2]) _ _)
  clear b2 kw
  go_upto_region 5 with (at_builtin; clear x7 LA; refine wpList_append_any _ rfl (.tmp 20) (.tmp 22) 23 rfl (w1.heap.size + 1) 3 i0 (.int .i64 0) 1 8 Tryd.underlying23 hi0 hz0 hz1 hz2 rfl (by decide) (.slice (some ⟨w1.heap.size + 1, 0, none⟩) 0 0) 0 [] (by rfl) OA.out w.heap.size A1 c.ps.length c1 (cellsI .i64 c.ps) (by rfl) RA.out (cellsI_one _) (by unfold maxLen; omega) (by omega) (by rw [World.size_alloc, S2.out]; omega) ?_; intro v5 w5 hown5 hg5 hat5; rw [Nat.zero_add, List.nil_append] at hown5; obtain ⟨A5, c5, rfl, hc5⟩ := own_slice hown5; have B5 := Lib.hid ((bal (Below.refl W2.heap.size W2) (.cells #[] 3)).grown hg5 (by simp) (fun y hy => by have e : w1.heap.size + 1 = y := Option.some.inj hy; have := S2.out; omega)); have KW5 := Lib.hid (KW.out.below B5.out KW.out.lt); have st5 := store_slI A5 c.ps.length c5 (KW5.out.cell 5) (KW5.out.frozen 5); have OW5 := Lib.hid hown5; clear hown5 hg5 hat5 WA hc5)
  have B6 := Lib.hid ((B2.out.trans (B5.out.mono B2.out.size)).setCell (p := ⟨w1.heap.size, 5, none⟩) (Nat.le_refl _) (.slice A5 c.ps.length c5))
  have KW6 := Lib.hid (show Blk (w5.setCell ⟨w1.heap.size, 5, none⟩ (.slice A5 c.ps.length c5)) w1.heap.size 26 #[.int .i8 c.st, .int .i64 c.pid, .int .i64 c.ep, .int .i64 c.tm, .int .i64 c.th, .slice A5 c.ps.length c5, .slice D1 c.qs.length e1, .int .i64 c.ag] from KW5.out.set_ 5 (.slice A5 c.ps.length c5))
  have OW6 := Lib.hid (bk_own (w' := w5.setCell ⟨w1.heap.size, 5, none⟩ (.slice A5 c.ps.length c5)) OW5.out (fun y hy => Below.heap_setCell _ _ _ _ (by have := (OW5.out.lt y hy).1; show y ≠ w1.heap.size; omega)))
  clear st5 st2
  generalize w5.setCell ⟨w1.heap.size, 5, none⟩ (.slice A5 c.ps.length c5) = W6 at *
  have BW6 := Lib.hid (btrans BF.out B6.out)
  have WB := ((K5.out.below B6.out K5.out.lt).alloc (.cells #[] 38)).cell 6
  have RB := Lib.hid (show Reads (W6.alloc (.cells #[] 38)) w.heap.size 3 D1 c.qs.length (cellsP c.qs) from (H1.out.2.1.below BW6.out).alloc BW6.out.size _)
  have OB := Lib.hid (show (W6.alloc (.cells #[] 38)).ownsRow W6.heap.size 38 3 (.slice (some ⟨W6.heap.size, 0, none⟩) 0 0) 0 [] from own_empty rfl _ _)
  go_upto_region 6 with (at_builtin; refine wpList_append_any _ rfl (.tmp 25) (.tmp 27) 24 rfl W6.heap.size 38 j0 _ 3 24 Tryd.underlying24 hj0 hy0 hy1 hy2 rfl (by decide) (.slice (some ⟨W6.heap.size, 0, none⟩) 0 0) 0 [] (by rfl) OB.out w.heap.size D1 c.qs.length e1 (cellsP c.qs) (by rfl) RB.out (cellsP_one _) (by unfold maxLen; omega) (by omega) (by rw [World.size_alloc]; omega) ?_; intro v8 w8 hown8 hg8 hat8; rw [Nat.zero_add, List.nil_append] at hown8; obtain ⟨D5, e5, rfl, hc8⟩ := own_slice hown8; have B8 := Lib.hid ((bal (Below.refl W6.heap.size W6) (.cells #[] 38)).grown hg8 (by simp) (fun y hy => by have e : W6.heap.size = y := Option.some.inj hy; omega)); have KW8 := Lib.hid (KW6.out.below B8.out KW6.out.lt); have st8 := store_slP D5 c.qs.length e5 (KW8.out.cell 6) (KW8.out.frozen 6); have OW8 := Lib.hid hown8; clear hown8 hg8 hat8 WB hc8)
  have B9 := Lib.hid ((B6.out.trans (B8.out.mono B6.out.size)).setCell (p := ⟨w1.heap.size, 6, none⟩) (Nat.le_refl _) (.slice D5 c.qs.length e5))
  have KW9 := Lib.hid (show Blk (w8.setCell ⟨w1.heap.size, 6, none⟩ (.slice D5 c.qs.length e5)) w1.heap.size 26 #[.int .i8 c.st, .int .i64 c.pid, .int .i64 c.ep, .int .i64 c.tm, .int .i64 c.th, .slice A5 c.ps.length c5, .slice D5 c.qs.length e5, .int .i64 c.ag] from KW8.out.set_ 6 (.slice D5 c.qs.length e5))
  have r5 := Reads.of_own (own_below (OW6.out) B8.out)
  have r8 := Reads.of_own OW8.out
  have ne5 := newAt_of_own OW6.out
  have ne8 := newAt_of_own OW8.out
  have n6 := KW6.out.lt
  have R9 := Lib.hid (show CoR (w8.setCell ⟨w1.heap.size, 6, none⟩ (.slice D5 c.qs.length e5)) (w8.setCell ⟨w1.heap.size, 6, none⟩ (.slice D5 c.qs.length e5)).heap.size c A5 D5 from by
    rw [World.size_setCell]
    exact ⟨r5.off (ne5.off (by omega)) _, r8.off (ne8.off (by omega)) _, hp1, hp2⟩)
  clear st8 r5 r8 ne5 ne8 n6
  generalize w8.setCell ⟨w1.heap.size, 6, none⟩ (.slice D5 c.qs.length e5) = W9 at *
  have BW9 := Lib.hid (btrans BF.out B9.out)
  have K6 := Lib.hid (K5.out.below B9.out K5.out.lt)
  have K7b := Lib.hid (K7.out.below B9.out K7.out.lt)
  have H6 := Lib.hid (H1.out.up BW9.out)
  have O6 := Lib.hid (And.intro (H1.out.1.offB (b := w.heap.size) (Nat.le_refl _)) (H1.out.2.1.offB (b := w.heap.size) (Nat.le_refl _)))
  have HL9 := Lib.hid ((HL.out.below BW9.out).more BW9.out.size)
  clear B2 BW2 RA OA B5 KW5 OW5 B6 KW6 OW6 BW6 RB OB B8 KW8 OW8 K5 K7 KW HK1 HK2
  have LA11 := bk_load (P := Tryd.prog) 8 K6.out rfl
  have LBq := bk_load (P := Tryd.prog) 8 K7b.out rfl
  obtain ⟨d11, hd11⟩ : ∃ d, d = mvC c x := ⟨_, rfl⟩
  obtain ⟨z11, hz11⟩ : ∃ z, z = mvE c x := ⟨_, rfl⟩
  have mv11 := moves_any c A1 D1 c1 e1 x L1 m1 W9 H6.out HL9.out (by omega) (HG.out.up BW9.out)
  rw [← hd11, ← hz11] at mv11
  have MV11 := Lib.hid mv11
  have HD11 := Lib.hid hd11
  have HZ11 := Lib.hid hz11
  clear mv11 hd11 hz11
  go_wp2_with fail
  refine MV11.out.mono ?_
  rintro e v11 ⟨A11, D11, c11, e11, rfl, r11, b11, of11⟩
  obtain ⟨V11, st11, k11, f11, s11⟩ := bk_fresh (P := Tryd.prog) v11 26 #[.int .i8 0, .int .i64 0, .int .i64 0, .int .i64 0, .int .i64 0, .slice none 0 0, .slice none 0 0, .int .i64 0] #[.int .i8 d11.st, .int .i64 d11.pid, .int .i64 d11.ep, .int .i64 d11.tm, .int .i64 d11.th, .slice A11 d11.ps.length c11, .slice D11 d11.qs.length e11, .int .i64 d11.ag] 8 infoCo rfl rfl (by simp [Value.oneCell'])
  have R11 := Lib.hid (show CoR V11 V11.heap.size d11 A11 D11 from r11.up f11)
  have K11 := Lib.hid k11
  have B11 := Lib.hid (Below.trans b11 (f11.mono b11.size))
  clear r11 b11 of11 k11 f11 s11 LA11 LBq
  have Ka := Lib.hid (K6.out.below B11.out K6.out.lt)
  have Kb := Lib.hid (K7b.out.below B11.out K7b.out.lt)
  have Hb := Lib.hid (H6.out.up B11.out)
  have HLb := Lib.hid ((HL9.out.below B11.out).more B11.out.size)
  go_upto_region 7 with (fail)
  clear st11

  have LA12 := bk_load (P := Tryd.prog) 8 Ka.out rfl
  have LBq := bk_load (P := Tryd.prog) 8 Kb.out rfl
  obtain ⟨d12, hd12⟩ : ∃ d, d = mvC c x := ⟨_, rfl⟩
  obtain ⟨z12, hz12⟩ : ∃ z, z = mvE c x := ⟨_, rfl⟩
  have mv12 := told_any c A1 D1 c1 e1 x L1 m1 V11 Hb.out h8 h9 HLb.out (by omega)
  rw [← hd12, ← hz12] at mv12
  have MV12 := Lib.hid mv12
  have HD12 := Lib.hid hd12
  have HZ12 := Lib.hid hz12
  clear mv12 hd12 hz12
  go_wp2_with fail
  refine MV12.out.mono ?_
  rintro e v12 ⟨A12, D12, c12, e12, rfl, r12, b12, of12⟩
  obtain ⟨V12, st12, k12, f12, s12⟩ := bk_fresh (P := Tryd.prog) v12 26 #[.int .i8 0, .int .i64 0, .int .i64 0, .int .i64 0, .int .i64 0, .slice none 0 0, .slice none 0 0, .int .i64 0] #[.int .i8 d12.st, .int .i64 d12.pid, .int .i64 d12.ep, .int .i64 d12.tm, .int .i64 d12.th, .slice A12 d12.ps.length c12, .slice D12 d12.qs.length e12, .int .i64 d12.ag] 8 infoCo rfl rfl (by simp [Value.oneCell'])
  have R12 := Lib.hid (show CoR V12 V12.heap.size d12 A12 D12 from r12.up f12)
  have K12 := Lib.hid k12
  have B12 := Lib.hid (Below.trans b12 (f12.mono b12.size))
  clear r12 b12 of12 k12 f12 s12 LA12 LBq
  have BV := Lib.hid ((B11.out.trans (B12.out.mono B11.out.size)))
  have BX := Lib.hid (BW9.out.trans (BV.out.mono BW9.out.size))
  have Kc := Lib.hid (Ka.out.below B12.out Ka.out.lt)
  have Kd := Lib.hid (KW9.out.below BV.out KW9.out.lt)
  have Ke := Lib.hid (K11.out.below B12.out K11.out.lt)
  have E12 : d12 = d11 ∧ z12 = z11 := ⟨HD12.out.trans HD11.out.symm, HZ12.out.trans HZ11.out.symm⟩
  obtain ⟨rfl, rfl⟩ := E12
  have Ra := Lib.hid (R11.out.up B12.out)
  have Rc := Lib.hid (H6.out.up BV.out)
  have Rd := Lib.hid (R9.out.up BV.out)
  have S1 := Lib.hid (rSame_any d12 d12 A11 D11 c11 e11 A12 D12 c12 e12 _ _ V12 Ra.out R12.out (Nat.le_refl _) (Nat.le_refl _))
  have S3 := Lib.hid (fun W (hb : Below V12.heap.size V12 W) => rSame_any c c A1 D1 c1 e1 A5 D5 c5 e5 _ _ W (Rc.out.up hb) (Rd.out.up hb) (Nat.le_refl _) (Nat.le_refl _))
  rw [same_refl] at S1 S3
  go_upto_region 8 with (fail)
  clear st12
  have M1 := bk_load (P := Tryd.prog) 8 Ke.out rfl
  have M2 := bk_load (P := Tryd.prog) 8 K12.out rfl
  go_wp2_with fail
  refine S1.out.mono ?_
  rintro e y1 ⟨rfl, b1⟩
  have M3 := bk_load (P := Tryd.prog) 8 (Kc.out.below b1 Kc.out.lt) rfl
  have M4 := bk_load (P := Tryd.prog) 8 (Kd.out.below b1 Kd.out.lt) rfl
  have Y1 := Lib.hid b1
  clear M1 M2 b1
  go_wp2_with fail
  refine (S3.out _ Y1.out).mono ?_
  rintro e y2 ⟨rfl, b2⟩
  have Y2 := Lib.hid (btrans (BX.out.trans (Y1.out.mono BX.out.size)) b2)
  clear M3 M4 b2
  go_wp2_with fail
  refine (HWK.out _ Y2.out).mono ?_
  rintro e w9 ⟨rfl, b9⟩
  go_wp2_with fail
  go_ret
  exact ⟨rfl, btrans Y2.out b9⟩
theorem move_walk (c : Co) (A1 D1 : Option Addr) (c1 e1 : Nat) (x : Mv) (L1 : Option Addr) (m1 : Nat) (w : World) (hg : HasET w) (h1 : CoRaw w c A1 D1) (hl : MvRaw w x L1) :
    Calls Tryd.prog 5 #[(.agg #[.int .i8 c.st, .int .i64 c.pid, .int .i64 c.ep, .int .i64 c.tm, .int .i64 c.th, .slice A1 c.ps.length c1, .slice D1 c.qs.length e1, .int .i64 c.ag]), (.agg #[.int .i64 x.k, .int .i64 x.a, .int .i64 x.b, .int .i64 x.p.1, .int .i64 x.p.2.1, .int .i64 x.p.2.2, .bool x.yes, .slice L1 x.l.length m1])] w fun e w' => e = .returned (.bool true) ∧ Below w.heap.size w w' := by
  cases hb : bigB c
  · by_cases h40 : 40 < x.l.length
    · exact mov_b c A1 D1 c1 e1 x L1 m1 w hg hb h40
    · exact mov_c c A1 D1 c1 e1 x L1 m1 w hg (h1.small hb) h1.2.2.1 h1.2.2.2 hl hb (by omega)
  · exact mov_a c A1 D1 c1 e1 x L1 m1 w hg hb
end
end Go.Proofs.YtagclnmchkgpdaaDoor
namespace Go.Proofs.YtagclnmchkgpdaaDoor.statesMove
open Go.ChangeShapes Go.WideShapes Go.ChangeAt Go.RowKit
open Go.ChangeMaps (open_string shut_string)
set_option linter.unusedVariables false

theorem laid_met (os : Os) : laidMetH Tryd.prog Rows.statesMoveRow.laid ((laidWorld os).forCall (fun _ _ => 0) ⟨#[], #[.agg #[.int .i8 0, .int .i64 0, .int .i64 0, .int .i64 0, .int .i64 0, .slice none 0 0, .slice none 0 0, .int .i64 0], .agg #[.int .i64 0, .int .i64 0, .int .i64 0, .int .i64 0, .int .i64 0, .int .i64 0, .bool false, .slice none 0 0]], []⟩).memory :=
  laidMetH_of_parts (laidMet_nil _ _) (by kernel_rfl)
theorem reads (os : Os) {H : Type} (enc : TypeId × Value → H) : ∃ places, DataW.whole enc Tryd.prog ((laidWorld os).forCall (fun _ _ => 0) ⟨#[], #[.agg #[.int .i8 0, .int .i64 0, .int .i64 0, .int .i64 0, .int .i64 0, .slice none 0 0, .slice none 0 0, .int .i64 0], .agg #[.int .i64 0, .int .i64 0, .int .i64 0, .int .i64 0, .int .i64 0, .int .i64 0, .bool false, .slice none 0 0]], []⟩).memory Tryd.f5.params.toList Rows.statesMoveSpec.vars false (#[.agg #[.int .i8 0, .int .i64 0, .int .i64 0, .int .i64 0, .int .i64 0, .slice none 0 0, .slice none 0 0, .int .i64 0], .agg #[.int .i64 0, .int .i64 0, .int .i64 0, .int .i64 0, .int .i64 0, .int .i64 0, .bool false, .slice none 0 0]] : Array Value).toList 8 = some ([.agg [.lit (.int .i8 0), .lit (.int .i64 0), .lit (.int .i64 0), .lit (.int .i64 0), .lit (.int .i64 0), .nil, .nil, .lit (.int .i64 0)], .agg [.lit (.int .i64 0), .lit (.int .i64 0), .lit (.int .i64 0), .agg [.lit (.int .i64 0), .lit (.int .i64 0), .lit (.int .i64 0)], .lit (.bool false), .nil]], [], places) :=
  ⟨[], by kernel_rfl⟩

set_option maxRecDepth 100000 in
theorem lifted (os : Os) (started : os.Started) (H : Type) (enc : TypeId × Value → H) (F : Stop.Interp) :
    ReturnsInHanded {} Tryd.checked os 5 .any ((OpenSpec.ofChange Rows.statesMoveSpec).preRow enc Tryd.prog Tryd.f5 Rows.statesMoveRow.domain false Rows.statesMoveRow.laid) (((OpenSpec.ofChange Rows.statesMoveSpec).at F).post enc Tryd.prog Tryd.f5 false true false false) := by
  obtain ⟨places, hx⟩ := reads os enc
  refine returnsInHanded_of_row (C := Tryd.checked) (s := OpenSpec.ofChange Rows.statesMoveSpec) own started (by kernel_rfl) Tryd.func5
    (witness_row_at (enc := enc) (C := Tryd.checked) false (laidWorld os) #[.agg #[.int .i8 0, .int .i64 0, .int .i64 0, .int .i64 0, .int .i64 0, .slice none 0 0, .slice none 0 0, .int .i64 0], .agg #[.int .i64 0, .int .i64 0, .int .i64 0, .int .i64 0, .int .i64 0, .int .i64 0, .bool false, .slice none 0 0]] rfl (by kernel_rfl) (by kernel_rfl) (by kernel_rfl)
      (OpenSpec.preRow_of_cond 8 hx (by kernel_rfl) (fun k hk => by cases hk) (by kernel_rfl) (laid_met os))) ?_
  intro W base args ds gs before hval0 hW _ _ hsz0 hL _ _
  have hg : HasET W := hasErr_of_laid hL
  have hval : ∀ (j : Nat) t v, Tryd.f5.params[j]? = some t → args[j]? = some v → Value.okWide Tryd.prog W .any base t v := hval0
  have hsz : (DataW.weightsEach Tryd.prog (Tryd.f5.params.toList ++ Rows.statesMoveSpec.plain.varTypes Tryd.prog) (ds ++ gs)).all (· ≤ reachBytes) = true := hsz0
  have hW' := hW
  obtain ⟨p, q, hA0, hV, rfl, hfz, hnd⟩ := hW
  have hA : DataW.TrodAll enc Tryd.prog W 0 (fun _ => true) true Tryd.f5.params.toList args.toList ds p := hA0
  rw [Tryd.params5] at hA hval hsz
  obtain ⟨v0, vs0, d0, ds0, p0, q0, hargs, rfl, rfl, h0, r0⟩ := trodAll_cons hA
  obtain ⟨v1, vs1, d1, ds1, p1, q1, rfl, rfl, rfl, h1, r1⟩ := trodAll_cons r0
  obtain ⟨rfl, rfl, rfl⟩ := trodAll_nil r1
  obtain rfl : args = #[v0, v1] := by cases args; simp_all
  obtain ⟨rfl, rfl⟩ := trodVars_none hV
  have k0 := h0
  have lt0 : ∀ x ∈ p0, x.block < W.heap.size := by obtain ⟨m, hm⟩ := k0; exact DataW.trod_lt m _ _ _ hm
  obtain ⟨co0, A0, D0, c0, e0, rfl, cr0, cl0, cm0⟩ := open_co (hval 0 26 v0 rfl rfl) h0
  have k1 := h1
  have lt1 : ∀ x ∈ p1, x.block < W.heap.size := by obtain ⟨m, hm⟩ := k1; exact DataW.trod_lt m _ _ _ hm
  obtain ⟨mv1, L1, m1, rfl, mr1⟩ := open_mv (hval 1 40 v1 rfl rfl) h1
  clear hA0 hval0 hsz0
  refine (move_walk co0 A0 D0 c0 e0 mv1 L1 m1 W hg cr0 mr1).mono fun e W' ⟨he, bel⟩ => ?_
  subst he
  exact ⟨_, rfl, _, _, _, [], _, [], hW', trodAll_mk1 (shut_bool Tryd.underlying4 _), (trodAll_cons_mk (Below.trod laidOut (by kernel_rfl) (of_decide_eq_true (by kernel_rfl)) k0 bel lt0) (trodAll_cons_mk (Below.trod laidOut (by kernel_rfl) (of_decide_eq_true (by kernel_rfl)) k1 bel lt1) trodAll_mk0)), rfl, bel.frame _, fun h => by cases h⟩

theorem said : Rows.StatesMoveSaid :=
  OpenClaim.holds_of_cond 5 Tryd.f5 rfl rfl rfl rfl rfl rfl rfl ⟨rfl, rfl, rfl, rfl, rfl⟩ rfl rfl rfl rfl rfl (by kernel_rfl) Tryd.func5 (by kernel_rfl)
    (of_decide_eq_true (by kernel_rfl)) (by unfold Func.isWrapper; first | (rw [if_pos (by decide +kernel)]; kernel_rfl) | (rw [if_neg (by decide +kernel)]; exact ⟨rfl, rfl⟩))
    (fun os started H enc _ F => by rw [OpenClaim.pre_eq_preRow]; exact lifted os started H enc F)

theorem plain (f : FuncId) (fn : Func) (hf : Tryd.pinned.checked.prog.funcNamed "roving/rovinglaw18.StatesMove" = some f) (hfn : Tryd.pinned.checked.prog.funcs[f]? = some fn) :
    true = Tryd.pinned.checked.prog.looks [] ∧ ∀ (j : Nat) t, fn.params[j]? = some t → Tryd.pinned.checked.prog.wantsStandIn t = false := by
  obtain rfl : f = 5 := Option.some.inj ((show Tryd.prog.funcNamed "roving/rovinglaw18.StatesMove" = some 5 by kernel_rfl).symm.trans hf) |>.symm
  obtain rfl : fn = Tryd.f5 := (Option.some.inj (Tryd.func5.symm.trans hfn)).symm
  refine ⟨by kernel_rfl, fun j t ht => ?_⟩
  rw [Tryd.params5] at ht
  have hm : t = 26 ∨ t = 40 := by simpa using Array.mem_of_getElem? ht
  rcases hm with rfl | rfl <;> exact (show Tryd.prog.wantsStandIn _ = false by kernel_rfl)

/-- THE CARD. -/
theorem card : Rows.StatesMoveCardSaid :=
  Claim7.holds_tied_plain_at .later [] _ _ _ _ said (fun _ h => by cases h) (by kernel_rfl) (fun _ h => by cases h) statesMove_row_tie rfl ⟨rfl, rfl⟩ (by kernel_rfl) rfl plain (by kernel_rfl)
end Go.Proofs.YtagclnmchkgpdaaDoor.statesMove
