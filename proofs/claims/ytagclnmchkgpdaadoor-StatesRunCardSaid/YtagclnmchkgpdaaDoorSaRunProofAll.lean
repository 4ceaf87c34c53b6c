/-
  The card of StatesRun is proved: for every input the call returns true, and each argument reads as before. No condition but the row's own list, which the card ties to the program's text.
  The statement StatesOld: its walk.
  The statement StatesRun: its walk.
-/
import Derived.Test.YtagclnmchkgpdaaDoorSaRunProofPart2
import Derived.Test.YtagclnmchkgpdaaDoorGrp12
import Derived.Deep.LoopGhost
import Derived.Deep.RegionHeld3
set_option linter.unusedVariables false
set_option linter.unusedSimpArgs false
namespace Go.Proofs.YtagclnmchkgpdaaDoor
open Go.RowKit

theorem offB_none {b : Nat} {A : Option Addr} : OffB b 0 A := fun h => by omega
/-- A transactional id in a block of its own, its lists elsewhere. -/
def CoAt (w : World) (X : Nat) (c : Co) (W : World) : Prop :=
  ∃ (A5 D5 : Option Addr) (c5 e5 : Nat), Blk W X 26 #[.int .i8 c.st, .int .i64 c.pid, .int .i64 c.ep, .int .i64 c.tm, .int .i64 c.th, .slice A5 c.ps.length c5, .slice D5 c.qs.length e5, .int .i64 c.ag] ∧ CoR W W.heap.size c A5 D5 ∧ OffB X c.ps.length A5 ∧ OffB X c.qs.length D5 ∧ Below w.heap.size w W ∧ w.heap.size ≤ X
theorem CoAt.below {w W W' : World} {X : Nat} {c : Co} (h : CoAt w X c W) (hb : Below W.heap.size W W') : CoAt w X c W' := by
  obtain ⟨A5, D5, c5, e5, h1, h2, h3, h4, h5, h6⟩ := h
  exact ⟨A5, D5, c5, e5, h1.below hb h1.lt, h2.up hb, h3, h4, h5.trans (hb.mono h5.size), h6⟩
/-- Whatever is in the block, another one is put there. -/
theorem coat_store {w W : World} {X : Nat} {zs : Array Value} {d : Co} (A5 D5 : Option Addr) (c5 e5 : Nat) (hk : Blk W X 26 zs) (hz : zs.size = 8) (hr : CoR W W.heap.size d A5 D5) (h3 : OffB X d.ps.length A5) (h4 : OffB X d.qs.length D5) (hb : Below w.heap.size w W) (hX : w.heap.size ≤ X) :
    ∃ W', (storeVar 26 ⟨X, 0, none⟩ (.agg #[.int .i8 d.st, .int .i64 d.pid, .int .i64 d.ep, .int .i64 d.tm, .int .i64 d.th, .slice A5 d.ps.length c5, .slice D5 d.qs.length e5, .int .i64 d.ag])).run Tryd.prog W = .ok () W' ∧ CoAt w X d W' := by
  obtain ⟨W', st, kk, fb, fh, fs⟩ := bk_store (P := Tryd.prog) (ty := 26) (cs := #[.int .i8 d.st, .int .i64 d.pid, .int .i64 d.ep, .int .i64 d.tm, .int .i64 d.th, .slice A5 d.ps.length c5, .slice D5 d.qs.length e5, .int .i64 d.ag]) 8 hk infoCo hz rfl (by simp [Value.oneCell'])
  refine ⟨W', st, A5, D5, c5, e5, kk, ?_, h3, h4, fb w.heap.size w hX hb, hX⟩
  rw [fs]
  exact ⟨reads_hold hr.1 (fun hn ad e => fh _ (h3 hn ad e)), reads_hold hr.2.1 (fun hn ad e => fh _ (h4 hn ad e)), hr.2.2⟩
/-- .. in a new block. -/
theorem coat_new {w W : World} {d : Co} (A5 D5 : Option Addr) (c5 e5 : Nat) (hr : CoR W W.heap.size d A5 D5) (hb : Below w.heap.size w W) :
    ∃ W', (storeVar 26 ⟨W.heap.size, 0, none⟩ (.agg #[.int .i8 d.st, .int .i64 d.pid, .int .i64 d.ep, .int .i64 d.tm, .int .i64 d.th, .slice A5 d.ps.length c5, .slice D5 d.qs.length e5, .int .i64 d.ag])).run Tryd.prog (W.alloc (.cells #[.int .i8 0, .int .i64 0, .int .i64 0, .int .i64 0, .int .i64 0, .slice none 0 0, .slice none 0 0, .int .i64 0] 26)) = .ok () W' ∧ CoAt w W.heap.size d W' ∧ Below W.heap.size W W' ∧ W'.heap.size = W.heap.size + 1 := by
  obtain ⟨W', st, kk, fb, fs⟩ := bk_fresh (P := Tryd.prog) W 26 #[.int .i8 0, .int .i64 0, .int .i64 0, .int .i64 0, .int .i64 0, .slice none 0 0, .slice none 0 0, .int .i64 0] #[.int .i8 d.st, .int .i64 d.pid, .int .i64 d.ep, .int .i64 d.tm, .int .i64 d.th, .slice A5 d.ps.length c5, .slice D5 d.qs.length e5, .int .i64 d.ag] 8 infoCo rfl rfl (by simp [Value.oneCell'])
  exact ⟨W', st, ⟨A5, D5, c5, e5, kk, hr.up fb, hr.1.offB (Nat.le_refl _), hr.2.1.offB (Nat.le_refl _), hb.trans (fb.mono hb.size), hb.size⟩, fb, fs⟩
theorem init_zero_e (tm : Int) : initE Co0 1 tm = if 1 ≤ tm ∧ tm ≤ 20 then 0 else 2 := by
  have hm : mayB Co0 = true := by unfold mayB; rw [if_pos (show Co0.st = 0 from rfl)]; exact same_refl _
  have hk : chkE Co0 0 true = 0 := by unfold chkE; rw [if_neg (by simp [hm]), if_neg (by show ¬ beginsB 0 0 = false; decide)]
  unfold initE
  by_cases h : 1 ≤ tm ∧ tm ≤ 20
  · rw [if_neg (by omega), if_neg (by rw [hk]; simp), if_neg (by show ¬ (100 : Int) ≤ 0; decide), if_pos h]
  · rw [if_pos (by omega), if_neg h]
theorem init_zero_c (tm : Int) (h : 1 ≤ tm ∧ tm ≤ 20) : initC Co0 1 tm = ⟨1, 1, 0, tm, 0, [], [], 0⟩ := by
  unfold initC
  rw [init_zero_e, if_pos h, if_pos rfl, if_pos (show Co0.st = 0 from rfl)]
theorem add_zero (tm : Int) (h : 1 ≤ tm ∧ tm ≤ 20) : addE ⟨1, 1, 0, tm, 0, [], [], 0⟩ 0 = 0 := by
  have hm := may_new 1 1 0 tm (.inl rfl) (by omega) (by omega) h
  unfold addE chkE
  rw [if_neg (by rw [hm]; simp [partB]), if_neg (by show ¬ beginsB 1 1 = false; decide)]
/-- What a tick, an addition and an offset leave of one under way. -/
theorem old_tick {c : Co} (hm : mayB c = true) (h2 : c.st = 2) (ha : c.ag < 1048576) : mayB (tickC c) = true ∧ (tickC c).st = 2 ∧ (tickC c).ag = c.ag + 1 ∧ (tickC c).tm = c.tm := by
  refine ⟨tick_may hm, ?_, ?_, ?_⟩ <;> unfold tickC <;> rw [if_pos ⟨hm, h2⟩]
  · exact h2
  · show (if c.ag < 1048576 then c.ag + 1 else c.ag) = _
    rw [if_pos ha]
section
attribute [-go_sem] loadCells storeVar
set_option maxRecDepth 100000 in
set_option maxHeartbeats 2000000 in
theorem old_a (tm : Int) (A1 : Option Addr) (n c1 : Nat) (w : World) (hg : HasET w) (ht : tm < 1 ∨ 20 < tm) :
    Calls Tryd.prog 6 #[.int .i64 tm, .slice A1 n c1] w fun e w' => e = .returned (.bool true) ∧ Below w.heap.size w w' := by
  have WK := Lib.hid (fun W (hb : Below w.heap.size w W) => wakes_any W (hg.up hb))
  have HI := Lib.hid (Init_all Co0 none none 0 0 1 tm w (CoR.zero _ _ _ _) hg)
  rw [init_zero_e, if_neg (by omega)] at HI
  obtain ⟨d1, hd1⟩ : ∃ d, d = initC Co0 1 tm := ⟨_, rfl⟩
  rw [← hd1] at HI

  clear hg hd1
  rcases ht with ht | ht
  · have t1 : decide (tm < 1) = true := decide_eq_true ht
    clear ht
    go_enter Tryd.func6, Tryd.ntmps6
    go_wp2_with fail
    refine HI.out.mono ?_
    rintro e w1 ⟨A5, D5, c5, e5, rfl, r5, b5, na, nd⟩
    obtain ⟨W2, st, q2, b2, s2⟩ := coat_new A5 D5 c5 e5 r5 b5
    have Q2 := Lib.hid q2
    have B2 := Lib.hid (b5.trans (b2.mono b5.size))
    have HX := Lib.hid (show w1.heap.size < W2.heap.size by rw [s2]; omega)
    clear r5 b5 na nd q2 b2 s2
  
    go_wp2_with fail
    refine (WK.out _ B2.out).mono ?_
    rintro e w9 ⟨rfl, b9⟩
    go_wp2_with fail
    go_ret
    exact ⟨rfl, btrans B2.out b9⟩
  · have t1 : decide (tm < 1) = false := decide_eq_false (by omega)
    have t2 : decide (20 < tm) = true := decide_eq_true ht
    clear ht
    go_enter Tryd.func6, Tryd.ntmps6
    go_wp2_with fail
    refine HI.out.mono ?_
    rintro e w1 ⟨A5, D5, c5, e5, rfl, r5, b5, na, nd⟩
    obtain ⟨W2, st, q2, b2, s2⟩ := coat_new A5 D5 c5 e5 r5 b5
    have Q2 := Lib.hid q2
    have B2 := Lib.hid (b5.trans (b2.mono b5.size))
    have HX := Lib.hid (show w1.heap.size < W2.heap.size by rw [s2]; omega)
    clear r5 b5 na nd q2 b2 s2
  
    go_wp2_with fail
    refine (WK.out _ B2.out).mono ?_
    rintro e w9 ⟨rfl, b9⟩
    go_wp2_with fail
    go_ret
    exact ⟨rfl, btrans B2.out b9⟩
set_option maxRecDepth 100000 in
set_option maxHeartbeats 2000000 in
theorem old_b (tm : Int) (A1 : Option Addr) (n c1 : Nat) (w : World) (hg : HasET w) (h1 : 1 ≤ tm) (h2 : tm ≤ 20) (hn : 60 < n) :
    Calls Tryd.prog 6 #[.int .i64 tm, .slice A1 n c1] w fun e w' => e = .returned (.bool true) ∧ Below w.heap.size w w' := by
  have WK := Lib.hid (fun W (hb : Below w.heap.size w W) => wakes_any W (hg.up hb))
  have HI := Lib.hid (Init_all Co0 none none 0 0 1 tm w (CoR.zero _ _ _ _) hg)
  rw [init_zero_e, if_pos ⟨h1, h2⟩] at HI
  obtain ⟨d1, hd1⟩ : ∃ d, d = initC Co0 1 tm := ⟨_, rfl⟩
  rw [← hd1] at HI

  have t1 : decide (tm < 1) = false := decide_eq_false (by omega)
  have t2 : decide (20 < tm) = false := decide_eq_false (by omega)
  have t3 : decide ((60 : Int) < (n : Int)) = true := decide_eq_true (by omega)
  clear hg hd1 h1 h2 hn
  go_enter Tryd.func6, Tryd.ntmps6
  go_wp2_with fail
  refine HI.out.mono ?_
  rintro e w1 ⟨A5, D5, c5, e5, rfl, r5, b5, na, nd⟩
  obtain ⟨W2, st, q2, b2, s2⟩ := coat_new A5 D5 c5 e5 r5 b5
  have Q2 := Lib.hid q2
  have B2 := Lib.hid (b5.trans (b2.mono b5.size))
  have HX := Lib.hid (show w1.heap.size < W2.heap.size by rw [s2]; omega)
  clear r5 b5 na nd q2 b2 s2

  go_wp2_with fail
  refine (WK.out _ B2.out).mono ?_
  rintro e w9 ⟨rfl, b9⟩
  go_wp2_with fail
  go_ret
  exact ⟨rfl, btrans B2.out b9⟩
set_option maxRecDepth 100000 in
set_option maxHeartbeats 8000000 in
theorem old_c (tm : Int) (A1 : Option Addr) (l : List MvM) (c1 : Nat) (w : World) (hg : HasET w) (h1 : 1 ≤ tm) (h2 : tm ≤ 20) (hn : l.length ≤ 60) (hr : Reads w w.heap.size 8 A1 l.length (cellsM l)) :
    Calls Tryd.prog 6 #[.int .i64 tm, .slice A1 l.length c1] w fun e w' => e = .returned (.bool true) ∧ Below w.heap.size w w' := by
  have WK := Lib.hid (fun W (hb : Below w.heap.size w W) => wakes_any W (hg.up hb))
  have HI := Lib.hid (Init_all Co0 none none 0 0 1 tm w (CoR.zero _ _ _ _) hg)
  rw [init_zero_e, if_pos ⟨h1, h2⟩] at HI
  obtain ⟨d1, hd1⟩ : ∃ d, d = initC Co0 1 tm := ⟨_, rfl⟩
  rw [← hd1] at HI

  have t3 : decide ((60 : Int) < (l.length : Int)) = false := decide_eq_false (by omega)
  have hd1' := hd1.trans (init_zero_c tm ⟨h1, h2⟩)
  have ha : addE d1 0 = 0 := by rw [hd1']; exact add_zero tm ⟨h1, h2⟩
  have hac := (add_ok ha).1
  have hat : (addC d1 0).st = 2 ∧ (addC d1 0).ag = 0 ∧ (addC d1 0).tm = tm := by rw [(add_ok ha).2, hd1']; exact ⟨rfl, rfl, rfl⟩
  obtain ⟨d2, hd2⟩ : ∃ d, d = addC d1 0 := ⟨_, rfl⟩
  rw [← hd2] at hac hat
  have AD := Lib.hid (fun A D c e W (h : CoR W W.heap.size d1 A D) (hb : Below w.heap.size w W) => show Calls Tryd.prog 24 #[.agg #[.int .i8 d1.st, .int .i64 d1.pid, .int .i64 d1.ep, .int .i64 d1.tm, .int .i64 d1.th, .slice A d1.ps.length c, .slice D d1.qs.length e, .int .i64 d1.ag], .int .i64 0] W (MvPost d2 0 W) from by
    have := Add_any d1 A D c e 0 W h (hg.up hb)
    rw [ha, ← hd2] at this
    exact this)
  have HD := Lib.hid (And.intro hac hat)
  have HR := Lib.hid hr
  have HG := Lib.hid hg
  have HTM := Lib.hid (And.intro h1 h2)
  clear hg hd1 hd1' hd2 ha hac hat h1 h2 hr
  go_enter Tryd.func6, Tryd.ntmps6
  go_wp2_with fail
  refine HI.out.mono ?_
  rintro e w1 ⟨A5, D5, c5, e5, rfl, r5, b5, na, nd⟩
  obtain ⟨W2, st, q2, b2, s2⟩ := coat_new A5 D5 c5 e5 r5 b5
  have Q2 := Lib.hid q2
  have B2 := Lib.hid (b5.trans (b2.mono b5.size))
  have HX := Lib.hid (show w1.heap.size < W2.heap.size by rw [s2]; omega)
  clear r5 b5 na nd q2 b2 s2

  obtain ⟨A6, D6, c6, e6, k6, r6, of6, og6, b6, x6⟩ := Q2.out
  have L6 := bk_load (P := Tryd.prog) 8 k6 rfl
  have K6 := Lib.hid k6
  have AD2 := Lib.hid (AD.out A6 D6 c6 e6 W2 r6 b6)
  clear k6 r6 of6 og6 b6 x6
  go_wp2_with fail
  refine AD2.out.mono ?_
  rintro e w3 ⟨A7, D7, c7, e7, rfl, r7, b7, na, nd⟩
  obtain ⟨W4, st4, q4⟩ := coat_store (w := w) (X := w1.heap.size) A7 D7 c7 e7 (K6.out.below b7 K6.out.lt) rfl r7 (na.off HX.out) (nd.off HX.out) (btrans B2.out b7) (by have := Q2.out.choose_spec.choose_spec.choose_spec.choose_spec.2.2.2.2.2; exact this)
  have Q4 := Lib.hid q4
  clear r7 b7 na nd q4 L6
  go_wp2_with fail
  clear st st4
  go_loopg [7, 8] l.length (fun mm y x wr => ∃ (k age : Nat) (c : Co), k ≤ l.length ∧ age ≤ k ∧ x = .int .i64 k ∧ y = .int .i64 age ∧ mm = l.length - k ∧ mayB c = true ∧ c.st = 2 ∧ c.ag = age ∧ c.tm = tm ∧ CoAt w w1.heap.size c wr)
  case atStart => exact ⟨0, 0, d2, Nat.zero_le _, Nat.le_refl _, rfl, rfl, by omega, HD.out.1, HD.out.2.1, HD.out.2.2.1, HD.out.2.2.2, Q4.out⟩
  case round =>
    obtain ⟨k, age, c, hk, hage, rfl, rfl, hmm, hmay, hst, hag, htm, hco⟩ := hrel
    have HM := Lib.hid hmm
    have HF := Lib.hid (And.intro hmay (And.intro hst (And.intro hag htm)))
    have U0 := Lib.hid hco
    clear hmm hmay hag htm hco hst
    by_cases hlt : k < l.length
    · have d1' : decide ((k : Int) < (l.length : Int)) = true := by simp; omega
      obtain ⟨y, hy⟩ : ∃ z, l[k]? = some z := ⟨_, List.getElem?_eq_getElem hlt⟩
      obtain ⟨b1, o1, rfl, hb1, hcm⟩ := HR.out.plainM (by omega)
      have i1 : (0 : Int) ≤ (k : Int) := by omega
      have i2 : (k : Int) < (l.length : Int) := by omega
      have CE := Lib.hid (fun W (hb : Below w.heap.size w W) j u (hj : (cM y)[j]? = some u) => show W.cell? ⟨b1, o1 + k * 8 + j, none⟩ = some u from by rw [hb.cell (by exact hb1)]; exact hcm k y hy j u hj)
      have LE := Lib.hid (fun W (hb : Below w.heap.size w W) => show (loadCells ⟨b1, o1 + k * 8, none⟩ 8).run Tryd.prog W = .ok #[.int .i64 y.x.k, .int .i64 y.x.a, .int .i64 y.x.b, .int .i64 y.x.p.1, .int .i64 y.x.p.2.1, .int .i64 y.x.p.2.2, .bool y.x.yes, .slice y.L y.x.l.length y.m] W from by
        have := run_loadCells_list (P := Tryd.prog) W ⟨b1, o1 + k * 8, none⟩ (cM y) (fun j v hv => by rw [Addr.add_lit]; exact CE.out W hb j v hv)
        simpa [cM] using this)
      obtain ⟨A5, D5, c5, e5, k5, r5, of5, og5, bl5, x5⟩ := U0.out
      have L5 := bk_load (P := Tryd.prog) 8 k5 rfl
      obtain ⟨u, hu⟩ : ∃ u, decide (tm ≤ (age : Int)) = u := ⟨_, rfl⟩
      have hdu := Due_any c A5 D5 c5 e5 wr
      rw [show dueB c = u by
        unfold dueB
        rw [HF.out.2.1, HF.out.2.2.1, HF.out.2.2.2, ← hu]
        simp] at hdu
      have DU := Lib.hid hdu
      have BL5 := Lib.hid bl5
      clear k5 r5 of5 og5 bl5 x5 hcm hy hdu
      go_upto_region 11 with (fail)
      go_wp2_with fail
      refine DU.out.mono ?_
      rintro e w5 ⟨rfl, b5⟩
      have U5 := Lib.hid (U0.out.below b5)
      have BL6 := Lib.hid (btrans BL5.out b5)
      have g0 : w5.cell? ⟨b1, o1 + k * 8, none⟩ = some (.int .i64 y.x.k) := CE.out _ BL6.out 0 _ rfl
      clear b5 L5
      by_cases hk5 : y.x.k = 5
      · have cc1 : (y.x.k == 1) = false := by rw [hk5]; rfl
        have cc2 : (y.x.k == 2) = false := by rw [hk5]; rfl
        have cc5 : (y.x.k == 5) = true := by rw [hk5]; rfl
        clear hk5
        obtain ⟨A6, D6, c6, e6, k6, r6, of6, og6, b6, x6⟩ := U5.out
        have L6 := bk_load (P := Tryd.prog) 8 k6 rfl
        have TK := Lib.hid (Tick_any c A6 D6 c6 e6 w5 r6)
        have K6 := Lib.hid k6
        have O6 := Lib.hid (And.intro of6 (And.intro og6 x6))
        clear k6 r6 of6 og6 b6 x6
        go_wp2_with fail
        refine TK.out.mono ?_
        rintro e w7 ⟨A7, D7, c7, e7, rfl, r7, b7, hnew⟩
        obtain ⟨d3, hd3⟩ : ∃ d, d = tickC c := ⟨_, rfl⟩
        rw [← hd3] at r7 hnew ⊢
        have hps : d3.ps = c.ps ∧ d3.qs = c.qs := by rw [hd3]; unfold tickC; split <;> exact ⟨rfl, rfl⟩
        have hoff : OffB w1.heap.size d3.ps.length A7 ∧ OffB w1.heap.size d3.qs.length D7 := by
          rcases hnew with ⟨rfl, rfl⟩ | ⟨na, nd⟩
          · rw [hps.1, hps.2]; exact ⟨O6.out.1, O6.out.2.1⟩
          · exact ⟨na.off K6.out.lt, nd.off K6.out.lt⟩
        obtain ⟨W8, st8, q8⟩ := coat_store (w := w) (X := w1.heap.size) A7 D7 c7 e7 (K6.out.below b7 K6.out.lt) rfl r7 hoff.1 hoff.2 (btrans BL6.out b7) O6.out.2.2
        have HT := Lib.hid (show mayB d3 = true ∧ d3.st = 2 ∧ d3.ag = c.ag + 1 ∧ d3.tm = c.tm by rw [hd3]; exact old_tick HF.out.1 HF.out.2.1 (by rw [HF.out.2.2.1]; omega))
        have Q8 := Lib.hid q8
        obtain ⟨A8, D8, c8, e8, k8, _⟩ := q8
        have y7 := k8.cell 7
        have y0 := k8.cell 0
        have f7 : (d3.ag != (age : Int) + 1) = false := by rw [HT.out.2.2.1, HF.out.2.2.1]; simp
        have f0 : (d3.st != 2) = false := by rw [HT.out.2.1]; rfl
        have cw : IntKind.i64.wrap ((age : Int) + 1) = (age : Int) + 1 := IntWalk.i64_in _ (by omega)
        clear r7 b7 hnew hd3 hps hoff k8 L6
        go_wp2_with fail
        go_roundg (gk - 1)
        case measure => have := HM.out; omega
        case rel => exact ⟨k + 1, age + 1, d3, by omega, by omega, by go_num, by go_num, by have := HM.out; omega, HT.out.1, HT.out.2.1, by rw [HT.out.2.2.1, HF.out.2.2.1]; omega, by rw [HT.out.2.2.2]; exact HF.out.2.2.2, Q8.out⟩
      by_cases hk12 : y.x.k = 1 ∨ y.x.k = 2
      · rcases hk12 with hk12 | hk12
        · have cc1 : (y.x.k == 1) = true := by rw [hk12]; rfl
          have cc2 : (y.x.k == 2) = false := by rw [hk12]; rfl
          have cc5 : (y.x.k == 5) = false := by rw [hk12]; rfl
          obtain ⟨A6, D6, c6, e6, k6, r6, of6, og6, b6, x6⟩ := U5.out
          obtain ⟨d3, hd3⟩ : ∃ d, d = addC c y.x.a := ⟨_, rfl⟩
          obtain ⟨z3, hz3⟩ : ∃ z, z = addE c y.x.a := ⟨_, rfl⟩
          have MV := Lib.hid (fun W (hb : Below w5.heap.size w5 W) => show Calls Tryd.prog 21 #[(.agg #[.int .i8 c.st, .int .i64 c.pid, .int .i64 c.ep, .int .i64 c.tm, .int .i64 c.th, .slice A6 c.ps.length c6, .slice D6 c.qs.length e6, .int .i64 c.ag]), .agg #[.int .i64 y.x.k, .int .i64 y.x.a, .int .i64 y.x.b, .int .i64 y.x.p.1, .int .i64 y.x.p.2.1, .int .i64 y.x.p.2.2, .bool y.x.yes, .slice y.L y.x.l.length y.m]] W (MvP c A6 D6 d3 z3 W) from by
            rw [hd3, hz3]
            exact moves_1 c A6 D6 c6 e6 y.x y.L y.m W (r6.up hb) (HG.out.up (BL6.out.trans (hb.mono BL6.out.size))) hk12)
          have K6 := Lib.hid k6
          have R6 := Lib.hid r6
          have O6 := Lib.hid (And.intro of6 (And.intro og6 x6))
          have F3 := Lib.hid (show z3 = 0 → mayB d3 = true ∧ d3.st = 2 ∧ d3.ag = c.ag ∧ d3.tm = c.tm from fun h => by
            rw [hz3] at h
            have hh := add_ok h
            rw [hd3]
            refine ⟨hh.1, ?_, ?_, ?_⟩ <;> rw [hh.2])
          clear k6 r6 of6 og6 b6 x6 hk12 hd3 hz3
          go_wp2_with fail
          have SS := Lib.hid (fun W (hb : Below w5.heap.size w5 W) => And.intro hb (And.intro (bk_load (P := Tryd.prog) 8 (K6.out.below hb K6.out.lt) rfl) (LE.out W (BL6.out.trans (hb.mono BL6.out.size)))))
          go_region_held3 (fun W => Below w5.heap.size w5 W ∧ (loadCells ⟨w1.heap.size, 0, none⟩ 8).run Tryd.prog W = .ok #[.int .i8 c.st, .int .i64 c.pid, .int .i64 c.ep, .int .i64 c.tm, .int .i64 c.th, .slice A6 c.ps.length c6, .slice D6 c.qs.length e6, .int .i64 c.ag] W ∧ (loadCells ⟨b1, o1 + k * 8, none⟩ 8).run Tryd.prog W = .ok #[.int .i64 y.x.k, .int .i64 y.x.a, .int .i64 y.x.b, .int .i64 y.x.p.1, .int .i64 y.x.p.2.1, .int .i64 y.x.p.2.2, .bool y.x.yes, .slice y.L y.x.l.length y.m] W)
            (first | exact SS.out _ (Below.refl _ _).drew | exact SS.out _ hb8 | exact SS.out _ (hb7.alloc hb7.size _) | exact SS.out _ hb7 | exact SS.out _ (bal (Below.refl _ _).drew _))
            ((go_at_call 21
              refine (MV.out _ (by go_split_ands; assumption)).mono ?_
              rintro e w7 ⟨A7, D7, c7, e7, rfl, r7, b7, off7⟩
              first
                | (have kz : Blk w7 w5.heap.size 26 #[.int .i8 0, .int .i64 0, .int .i64 0, .int .i64 0, .int .i64 0, .slice none 0 0, .slice none 0 0, .int .i64 0] := (bk_new w5.drew 26 #[.int .i8 0, .int .i64 0, .int .i64 0, .int .i64 0, .int .i64 0, .slice none 0 0, .slice none 0 0, .int .i64 0] rfl).below b7 (by simp)
                   have hb7 : Below w5.heap.size w5 w7 := Below.trans (bal (Below.refl _ _).drew (.cells #[.int .i8 0, .int .i64 0, .int .i64 0, .int .i64 0, .int .i64 0, .slice none 0 0, .slice none 0 0, .int .i64 0] 26)) (b7.mono (by simp))
                   obtain ⟨W8, st8, k8, fb8, fh8, fs8⟩ := bk_store (P := Tryd.prog) (ty := 26) (cs := #[.int .i8 d3.st, .int .i64 d3.pid, .int .i64 d3.ep, .int .i64 d3.tm, .int .i64 d3.th, .slice A7 d3.ps.length c7, .slice D7 d3.qs.length e7, .int .i64 d3.ag]) 8 kz infoCo rfl rfl (by simp [Value.oneCell'])
                   have hb8 : Below w5.heap.size w5 W8 := fb8 _ _ (Nat.le_refl _) hb7
                   have hox := off7 w1.heap.size (by have := K6.out.lt; simp; omega) O6.out.1 O6.out.2.1
                   have hob := off7 w5.heap.size (by simp) (R6.out.1.offB (Nat.le_refl _)) (R6.out.2.1.offB (Nat.le_refl _))
                   have R8 := Lib.hid (show CoR W8 W8.heap.size d3 A7 D7 by rw [fs8]; exact ⟨reads_hold r7.1 (fun hn ad e => fh8 _ (hob.1 hn ad e)), reads_hold r7.2.1 (fun hn ad e => fh8 _ (hob.2 hn ad e)), r7.2.2⟩)
                   have HOX := Lib.hid hox
                   have K8 := Lib.hid k8
                   have HB8 := Lib.hid hb8
                   have NX := Lib.hid (show ¬ w5.heap.size = w1.heap.size by have := K6.out.lt; omega)
                   clear kz k8 fb8 fh8 fs8 hox hob r7 b7 off7)
                | (have hb7 : Below w5.heap.size w5 w7 := ⟨b7.os, b7.tape, b7.output, b7.size, b7.block⟩
                   obtain ⟨W8, st8, k8, b8, s8⟩ := bk_fresh (P := Tryd.prog) w7 26 #[.int .i8 0, .int .i64 0, .int .i64 0, .int .i64 0, .int .i64 0, .slice none 0 0, .slice none 0 0, .int .i64 0] #[.int .i8 d3.st, .int .i64 d3.pid, .int .i64 d3.ep, .int .i64 d3.tm, .int .i64 d3.th, .slice A7 d3.ps.length c7, .slice D7 d3.qs.length e7, .int .i64 d3.ag] 8 infoCo rfl rfl (by simp [Value.oneCell'])
                   have hb8 : Below w5.heap.size w5 W8 := hb7.trans (b8.mono hb7.size)
                   have hox := off7 w1.heap.size K6.out.lt O6.out.1 O6.out.2.1
                   have R8 := Lib.hid (show CoR W8 W8.heap.size d3 A7 D7 from r7.up b8)
                   have HOX := Lib.hid hox
                   have K8 := Lib.hid k8
                   have HB8 := Lib.hid hb8
                   have NX := Lib.hid (show ¬ w7.heap.size = w1.heap.size by have := K6.out.lt; have := hb7.size; omega)
                   clear k8 b8 s8 hox r7 b7 off7)))
          all_goals
            by_cases hz : z3 = 0
            · have ez : (z3 == 0) = true := by simpa using hz
              have F4 := Lib.hid (F3.out hz)
              have L8 := bk_load (P := Tryd.prog) 8 K8.out rfl
              obtain ⟨W9, st9, q9⟩ := coat_store (w := w) (X := w1.heap.size) A7 D7 c7 e7 (K6.out.below HB8.out K6.out.lt) rfl R8.out HOX.out.1 HOX.out.2 (BL6.out.trans (HB8.out.mono BL6.out.size)) O6.out.2.2
              have Q9 := Lib.hid q9
              obtain ⟨A9, D9, c9, e9, k9, _⟩ := q9
              have y7 := k9.cell 7
              have y0 := k9.cell 0
              have f7 : (d3.ag != (age : Int)) = false := by rw [F4.out.2.2.1, HF.out.2.2.1]; simp
              have f0 : (d3.st != 2) = false := by rw [F4.out.2.1]; rfl
              clear hz k9 hb7 hb8
              go_wp2_with fail
              go_roundg (gk - 1)
              case measure => have := HM.out; omega
              case rel => exact ⟨k + 1, age, d3, by omega, by omega, by go_num, rfl, by have := HM.out; omega, F4.out.1, F4.out.2.1, by rw [F4.out.2.2.1]; exact HF.out.2.2.1, by rw [F4.out.2.2.2]; exact HF.out.2.2.2, Q9.out⟩
            · have ez : (z3 == 0) = false := by simpa using hz
              have kx := K6.out.below HB8.out K6.out.lt
              have y7 := kx.cell 7
              have y0 := kx.cell 0
              have f7 : (c.ag != (age : Int)) = false := by rw [HF.out.2.2.1]; simp
              have f0 : (c.st != 2) = false := by rw [HF.out.2.1]; rfl
              have Q9 := Lib.hid (U5.out.below HB8.out)
              clear hz kx hb7 hb8
              go_wp2_with fail
              go_roundg (gk - 1)
              case measure => have := HM.out; omega
              case rel => exact ⟨k + 1, age, c, by omega, by omega, by go_num, rfl, by have := HM.out; omega, HF.out.1, HF.out.2.1, HF.out.2.2.1, HF.out.2.2.2, Q9.out⟩
        · have cc1 : (y.x.k == 1) = false := by rw [hk12]; rfl
          have cc2 : (y.x.k == 2) = true := by rw [hk12]; rfl
          have cc5 : (y.x.k == 5) = false := by rw [hk12]; rfl
          obtain ⟨A6, D6, c6, e6, k6, r6, of6, og6, b6, x6⟩ := U5.out
          obtain ⟨d3, hd3⟩ : ∃ d, d = setC c y.x.p := ⟨_, rfl⟩
          obtain ⟨z3, hz3⟩ : ∃ z, z = setE c y.x.p := ⟨_, rfl⟩
          have MV := Lib.hid (fun W (hb : Below w5.heap.size w5 W) => show Calls Tryd.prog 21 #[(.agg #[.int .i8 c.st, .int .i64 c.pid, .int .i64 c.ep, .int .i64 c.tm, .int .i64 c.th, .slice A6 c.ps.length c6, .slice D6 c.qs.length e6, .int .i64 c.ag]), .agg #[.int .i64 y.x.k, .int .i64 y.x.a, .int .i64 y.x.b, .int .i64 y.x.p.1, .int .i64 y.x.p.2.1, .int .i64 y.x.p.2.2, .bool y.x.yes, .slice y.L y.x.l.length y.m]] W (MvP c A6 D6 d3 z3 W) from by
            rw [hd3, hz3]
            exact moves_2 c A6 D6 c6 e6 y.x y.L y.m W (r6.up hb) (HG.out.up (BL6.out.trans (hb.mono BL6.out.size))) hk12)
          have K6 := Lib.hid k6
          have R6 := Lib.hid r6
          have O6 := Lib.hid (And.intro of6 (And.intro og6 x6))
          have F3 := Lib.hid (show z3 = 0 → mayB d3 = true ∧ d3.st = 2 ∧ d3.ag = c.ag ∧ d3.tm = c.tm from fun h => by
            rw [hz3] at h
            have hh := set_ok h
            rw [hd3]
            refine ⟨hh.1, ?_, ?_, ?_⟩ <;> rw [hh.2])
          clear k6 r6 of6 og6 b6 x6 hk12 hd3 hz3
          go_wp2_with fail
          have SS := Lib.hid (fun W (hb : Below w5.heap.size w5 W) => And.intro hb (And.intro (bk_load (P := Tryd.prog) 8 (K6.out.below hb K6.out.lt) rfl) (LE.out W (BL6.out.trans (hb.mono BL6.out.size)))))
          go_region_held3 (fun W => Below w5.heap.size w5 W ∧ (loadCells ⟨w1.heap.size, 0, none⟩ 8).run Tryd.prog W = .ok #[.int .i8 c.st, .int .i64 c.pid, .int .i64 c.ep, .int .i64 c.tm, .int .i64 c.th, .slice A6 c.ps.length c6, .slice D6 c.qs.length e6, .int .i64 c.ag] W ∧ (loadCells ⟨b1, o1 + k * 8, none⟩ 8).run Tryd.prog W = .ok #[.int .i64 y.x.k, .int .i64 y.x.a, .int .i64 y.x.b, .int .i64 y.x.p.1, .int .i64 y.x.p.2.1, .int .i64 y.x.p.2.2, .bool y.x.yes, .slice y.L y.x.l.length y.m] W)
            (first | exact SS.out _ (Below.refl _ _).drew | exact SS.out _ hb8 | exact SS.out _ (hb7.alloc hb7.size _) | exact SS.out _ hb7 | exact SS.out _ (bal (Below.refl _ _).drew _))
            ((go_at_call 21
              refine (MV.out _ (by go_split_ands; assumption)).mono ?_
              rintro e w7 ⟨A7, D7, c7, e7, rfl, r7, b7, off7⟩
              first
                | (have kz : Blk w7 w5.heap.size 26 #[.int .i8 0, .int .i64 0, .int .i64 0, .int .i64 0, .int .i64 0, .slice none 0 0, .slice none 0 0, .int .i64 0] := (bk_new w5.drew 26 #[.int .i8 0, .int .i64 0, .int .i64 0, .int .i64 0, .int .i64 0, .slice none 0 0, .slice none 0 0, .int .i64 0] rfl).below b7 (by simp)
                   have hb7 : Below w5.heap.size w5 w7 := Below.trans (bal (Below.refl _ _).drew (.cells #[.int .i8 0, .int .i64 0, .int .i64 0, .int .i64 0, .int .i64 0, .slice none 0 0, .slice none 0 0, .int .i64 0] 26)) (b7.mono (by simp))
                   obtain ⟨W8, st8, k8, fb8, fh8, fs8⟩ := bk_store (P := Tryd.prog) (ty := 26) (cs := #[.int .i8 d3.st, .int .i64 d3.pid, .int .i64 d3.ep, .int .i64 d3.tm, .int .i64 d3.th, .slice A7 d3.ps.length c7, .slice D7 d3.qs.length e7, .int .i64 d3.ag]) 8 kz infoCo rfl rfl (by simp [Value.oneCell'])
                   have hb8 : Below w5.heap.size w5 W8 := fb8 _ _ (Nat.le_refl _) hb7
                   have hox := off7 w1.heap.size (by have := K6.out.lt; simp; omega) O6.out.1 O6.out.2.1
                   have hob := off7 w5.heap.size (by simp) (R6.out.1.offB (Nat.le_refl _)) (R6.out.2.1.offB (Nat.le_refl _))
                   have R8 := Lib.hid (show CoR W8 W8.heap.size d3 A7 D7 by rw [fs8]; exact ⟨reads_hold r7.1 (fun hn ad e => fh8 _ (hob.1 hn ad e)), reads_hold r7.2.1 (fun hn ad e => fh8 _ (hob.2 hn ad e)), r7.2.2⟩)
                   have HOX := Lib.hid hox
                   have K8 := Lib.hid k8
                   have HB8 := Lib.hid hb8
                   have NX := Lib.hid (show ¬ w5.heap.size = w1.heap.size by have := K6.out.lt; omega)
                   clear kz k8 fb8 fh8 fs8 hox hob r7 b7 off7)
                | (have hb7 : Below w5.heap.size w5 w7 := ⟨b7.os, b7.tape, b7.output, b7.size, b7.block⟩
                   obtain ⟨W8, st8, k8, b8, s8⟩ := bk_fresh (P := Tryd.prog) w7 26 #[.int .i8 0, .int .i64 0, .int .i64 0, .int .i64 0, .int .i64 0, .slice none 0 0, .slice none 0 0, .int .i64 0] #[.int .i8 d3.st, .int .i64 d3.pid, .int .i64 d3.ep, .int .i64 d3.tm, .int .i64 d3.th, .slice A7 d3.ps.length c7, .slice D7 d3.qs.length e7, .int .i64 d3.ag] 8 infoCo rfl rfl (by simp [Value.oneCell'])
                   have hb8 : Below w5.heap.size w5 W8 := hb7.trans (b8.mono hb7.size)
                   have hox := off7 w1.heap.size K6.out.lt O6.out.1 O6.out.2.1
                   have R8 := Lib.hid (show CoR W8 W8.heap.size d3 A7 D7 from r7.up b8)
                   have HOX := Lib.hid hox
                   have K8 := Lib.hid k8
                   have HB8 := Lib.hid hb8
                   have NX := Lib.hid (show ¬ w7.heap.size = w1.heap.size by have := K6.out.lt; have := hb7.size; omega)
                   clear k8 b8 s8 hox r7 b7 off7)))
          all_goals
            by_cases hz : z3 = 0
            · have ez : (z3 == 0) = true := by simpa using hz
              have F4 := Lib.hid (F3.out hz)
              have L8 := bk_load (P := Tryd.prog) 8 K8.out rfl
              obtain ⟨W9, st9, q9⟩ := coat_store (w := w) (X := w1.heap.size) A7 D7 c7 e7 (K6.out.below HB8.out K6.out.lt) rfl R8.out HOX.out.1 HOX.out.2 (BL6.out.trans (HB8.out.mono BL6.out.size)) O6.out.2.2
              have Q9 := Lib.hid q9
              obtain ⟨A9, D9, c9, e9, k9, _⟩ := q9
              have y7 := k9.cell 7
              have y0 := k9.cell 0
              have f7 : (d3.ag != (age : Int)) = false := by rw [F4.out.2.2.1, HF.out.2.2.1]; simp
              have f0 : (d3.st != 2) = false := by rw [F4.out.2.1]; rfl
              clear hz k9 hb7 hb8
              go_wp2_with fail
              go_roundg (gk - 1)
              case measure => have := HM.out; omega
              case rel => exact ⟨k + 1, age, d3, by omega, by omega, by go_num, rfl, by have := HM.out; omega, F4.out.1, F4.out.2.1, by rw [F4.out.2.2.1]; exact HF.out.2.2.1, by rw [F4.out.2.2.2]; exact HF.out.2.2.2, Q9.out⟩
            · have ez : (z3 == 0) = false := by simpa using hz
              have kx := K6.out.below HB8.out K6.out.lt
              have y7 := kx.cell 7
              have y0 := kx.cell 0
              have f7 : (c.ag != (age : Int)) = false := by rw [HF.out.2.2.1]; simp
              have f0 : (c.st != 2) = false := by rw [HF.out.2.1]; rfl
              have Q9 := Lib.hid (U5.out.below HB8.out)
              clear hz kx hb7 hb8
              go_wp2_with fail
              go_roundg (gk - 1)
              case measure => have := HM.out; omega
              case rel => exact ⟨k + 1, age, c, by omega, by omega, by go_num, rfl, by have := HM.out; omega, HF.out.1, HF.out.2.1, HF.out.2.2.1, HF.out.2.2.2, Q9.out⟩
      · have cc1 : (y.x.k == 1) = false := by simp; omega
        have cc2 : (y.x.k == 2) = false := by simp; omega
        have cc5 : (y.x.k == 5) = false := by simpa using hk5
        obtain ⟨A6, D6, c6, e6, k6, _⟩ := U5.out
        have y7 := k6.cell 7
        have y0 := k6.cell 0
        have f7 : (c.ag != (age : Int)) = false := by rw [HF.out.2.2.1]; simp
        have f0 : (c.st != 2) = false := by rw [HF.out.2.1]; rfl
        clear k6 hk5 hk12
        go_wp2_with fail
        go_roundg (gk - 1)
        case measure => have := HM.out; omega
        case rel => exact ⟨k + 1, age, c, by omega, by omega, by go_num, rfl, by have := HM.out; omega, HF.out.1, HF.out.2.1, HF.out.2.2.1, HF.out.2.2.2, U5.out⟩
    · obtain rfl : k = l.length := by omega
      have d1' : decide ((l.length : Int) < (l.length : Int)) = false := by simp
      obtain ⟨_, _, _, _, _, _, _, _, bl5, _⟩ := U0.out
      have BL5 := Lib.hid bl5
      clear bl5
      go_wp2_with fail
      refine (WK.out _ BL5.out).mono ?_
      rintro e w9 ⟨rfl, b9⟩
      go_wp2_with fail
      go_ret
      exact ⟨rfl, btrans BL5.out b9⟩
end
theorem old_walk (tm : Int) (A1 : Option Addr) (l : List MvM) (c1 : Nat) (w : World) (hg : HasET w) (hr : Reads w w.heap.size 8 A1 l.length (cellsM l)) :
    Calls Tryd.prog 6 #[.int .i64 tm, .slice A1 l.length c1] w fun e w' => e = .returned (.bool true) ∧ Below w.heap.size w w' := by
  rcases Int.lt_or_le tm 1 with h | h1
  · exact old_a tm A1 l.length c1 w hg (.inl h)
  rcases Int.lt_or_le 20 tm with h | h2
  · exact old_a tm A1 l.length c1 w hg (.inr h)
  rcases Nat.lt_or_ge 60 l.length with h | hn
  · exact old_b tm A1 l.length c1 w hg h1 h2 h
  · exact old_c tm A1 l c1 w hg h1 h2 hn hr
end Go.Proofs.YtagclnmchkgpdaaDoor
namespace Go.Proofs.YtagclnmchkgpdaaDoor
open Go.RowKit

section
attribute [-go_sem] loadCells storeVar
set_option maxRecDepth 100000 in
set_option maxHeartbeats 1000000 in
theorem run_a (A1 : Option Addr) (n c1 : Nat) (w : World) (hg : HasET w) (hn : 200 < n) :
    Calls Tryd.prog 7 #[.slice A1 n c1] w fun e w' => e = .returned (.bool true) ∧ Below w.heap.size w w' := by
  have WK := Lib.hid (wakes_any w hg)
  have t3 : decide ((200 : Int) < (n : Int)) = true := decide_eq_true (by omega)
  clear hg hn
  go_enter Tryd.func7, Tryd.ntmps7
  go_wp2_with fail
  refine WK.out.mono ?_
  rintro e w9 ⟨rfl, b9⟩
  go_wp2_with fail
  go_ret
  exact ⟨rfl, b9⟩
/-- What the round asks of a move that is done, in the words of the code. -/
theorem run_ended {d : Co} (y : Bool) : endedB d y = if y then d.st == 5 else d.st == 6 := rfl
set_option maxRecDepth 100000 in
set_option maxHeartbeats 16000000 in
theorem run_b (A1 : Option Addr) (l : List MvM) (c1 : Nat) (w : World) (hg : HasET w) (hn : l.length ≤ 200) (hr : Reads w w.heap.size 8 A1 l.length (cellsM l)) (hm : ∀ m ∈ l, MvRaw w m.x m.L) :
    Calls Tryd.prog 7 #[.slice A1 l.length c1] w fun e w' => e = .returned (.bool true) ∧ Below w.heap.size w w' := by
  have WK := Lib.hid (fun W (hb : Below w.heap.size w W) => wakes_any W (hg.up hb))
  have t3 : decide ((200 : Int) < (l.length : Int)) = false := decide_eq_false (by omega)
  have HR := Lib.hid hr
  have HM0 := Lib.hid hm
  have HG := Lib.hid hg
  have hm0 : mayB Co0 = true := by unfold mayB; rw [if_pos (show Co0.st = 0 from rfl)]; exact same_refl _
  have HM1 := Lib.hid hm0
  obtain ⟨W2, st, q2, _, _⟩ := coat_new (w := w) (W := w) (d := Co0) none none 0 0 (CoR.zero _ _ _ _) (Below.refl _ _)
  have st' : (storeVar 26 ⟨w.heap.size, 0, none⟩ (.agg #[.int .i8 0, .int .i64 0, .int .i64 0, .int .i64 0, .int .i64 0, .slice none 0 0, .slice none 0 0, .int .i64 0])).run Tryd.prog (w.alloc (.cells #[.int .i8 0, .int .i64 0, .int .i64 0, .int .i64 0, .int .i64 0, .slice none 0 0, .slice none 0 0, .int .i64 0] 26)) = .ok () W2 := st
  have Q2 := Lib.hid q2
  clear hg hr hm hm0 q2 st
  go_enter Tryd.func7, Tryd.ntmps7
  go_wp2_with fail
  clear st'
  go_loopg [4] l.length (fun mm x wr => ∃ (k : Nat) (c : Co), k ≤ l.length ∧ x = .int .i64 k ∧ mm = l.length - k ∧ mayB c = true ∧ CoAt w w.heap.size c wr)
  case atStart => exact ⟨0, Co0, Nat.zero_le _, rfl, by omega, HM1.out, Q2.out⟩
  case round =>
    obtain ⟨k, c, hk, rfl, hmm, hmay, hco⟩ := hrel
    have HM := Lib.hid hmm
    have HF := Lib.hid hmay
    have U5 := Lib.hid hco
    clear hmm hmay hco
    by_cases hlt : k < l.length
    · have d1' : decide ((k : Int) < (l.length : Int)) = true := by simp; omega
      obtain ⟨y, hy⟩ : ∃ z, l[k]? = some z := ⟨_, List.getElem?_eq_getElem hlt⟩
      obtain ⟨b1, o1, rfl, hb1, hcm⟩ := HR.out.plainM (by omega)
      have i1 : (0 : Int) ≤ (k : Int) := by omega
      have i2 : (k : Int) < (l.length : Int) := by omega
      have CE := Lib.hid (fun W (hb : Below w.heap.size w W) j u (hj : (cM y)[j]? = some u) => show W.cell? ⟨b1, o1 + k * 8 + j, none⟩ = some u from by rw [hb.cell (by exact hb1)]; exact hcm k y hy j u hj)
      have LE := Lib.hid (fun W (hb : Below w.heap.size w W) => show (loadCells ⟨b1, o1 + k * 8, none⟩ 8).run Tryd.prog W = .ok #[.int .i64 y.x.k, .int .i64 y.x.a, .int .i64 y.x.b, .int .i64 y.x.p.1, .int .i64 y.x.p.2.1, .int .i64 y.x.p.2.2, .bool y.x.yes, .slice y.L y.x.l.length y.m] W from by
        have := run_loadCells_list (P := Tryd.prog) W ⟨b1, o1 + k * 8, none⟩ (cM y) (fun j v hv => by rw [Addr.add_lit]; exact CE.out W hb j v hv)
        simpa [cM] using this)
      have RAW := Lib.hid (HM0.out y (List.mem_of_getElem? hy))
      obtain ⟨A6, D6, c6, e6, k6, r6, of6, og6, b6, x6⟩ := U5.out
      have BL6 := Lib.hid b6
      have g7 : wr.cell? ⟨b1, o1 + k * 8 + 7, none⟩ = some (.slice y.L y.x.l.length y.m) := CE.out _ b6 7 _ rfl
      clear hcm hy b6
      by_cases h40 : 40 < y.x.l.length
      · have d40 : decide ((40 : Int) < (y.x.l.length : Int)) = true := decide_eq_true (by omega)
        clear h40 k6 r6 of6 og6 x6
        go_wp2_with fail
        refine (WK.out _ BL6.out).mono ?_
        rintro e w9 ⟨rfl, b9⟩
        go_wp2_with fail
        go_ret
        exact ⟨rfl, btrans BL6.out b9⟩
      have d40 : decide ((40 : Int) < (y.x.l.length : Int)) = false := decide_eq_false (by omega)
      obtain ⟨d3, hd3⟩ : ∃ d, d = mvC c y.x := ⟨_, rfl⟩
      obtain ⟨z3, hz3⟩ : ∃ z, z = mvE c y.x := ⟨_, rfl⟩
      have MV := Lib.hid (fun W (hb : Below wr.heap.size wr W) => show Calls Tryd.prog 21 #[(.agg #[.int .i8 c.st, .int .i64 c.pid, .int .i64 c.ep, .int .i64 c.tm, .int .i64 c.th, .slice A6 c.ps.length c6, .slice D6 c.qs.length e6, .int .i64 c.ag]), .agg #[.int .i64 y.x.k, .int .i64 y.x.a, .int .i64 y.x.b, .int .i64 y.x.p.1, .int .i64 y.x.p.2.1, .int .i64 y.x.p.2.2, .bool y.x.yes, .slice y.L y.x.l.length y.m]] W (MvP c A6 D6 d3 z3 W) from by
        rw [hd3, hz3]
        have hbw := BL6.out.trans (hb.mono BL6.out.size)
        exact moves_any c A6 D6 c6 e6 y.x y.L y.m W (r6.up hb) ((RAW.out.up hbw).more hbw.size) (by omega) (HG.out.up hbw))
      have K6 := Lib.hid k6
      have R6 := Lib.hid r6
      have O6 := Lib.hid (And.intro of6 (And.intro og6 x6))
      have F3 := Lib.hid (show z3 = 0 → MvF c y.x d3 from fun h => by
        rw [hz3] at h
        rw [hd3]
        exact mv_fact HF.out h)
      clear k6 r6 of6 og6 x6 hd3 hz3 h40
      go_wp2_with fail
      clear g7
      have SS := Lib.hid (fun W (hb : Below wr.heap.size wr W) => And.intro hb (And.intro (bk_load (P := Tryd.prog) 8 (K6.out.below hb K6.out.lt) rfl) (LE.out W (BL6.out.trans (hb.mono BL6.out.size)))))
      go_region_held3 (fun W => Below wr.heap.size wr W ∧ (loadCells ⟨w.heap.size, 0, none⟩ 8).run Tryd.prog W = .ok #[.int .i8 c.st, .int .i64 c.pid, .int .i64 c.ep, .int .i64 c.tm, .int .i64 c.th, .slice A6 c.ps.length c6, .slice D6 c.qs.length e6, .int .i64 c.ag] W ∧ (loadCells ⟨b1, o1 + k * 8, none⟩ 8).run Tryd.prog W = .ok #[.int .i64 y.x.k, .int .i64 y.x.a, .int .i64 y.x.b, .int .i64 y.x.p.1, .int .i64 y.x.p.2.1, .int .i64 y.x.p.2.2, .bool y.x.yes, .slice y.L y.x.l.length y.m] W)
        (first | exact SS.out _ (Below.refl _ _).drew | exact SS.out _ hb8 | exact SS.out _ (hb7.alloc hb7.size _) | exact SS.out _ hb7 | exact SS.out _ (bal (Below.refl _ _).drew _))
        ((go_at_call 21
          refine (MV.out _ (by go_split_ands; assumption)).mono ?_
          rintro e w7 ⟨A7, D7, c7, e7, rfl, r7, b7, off7⟩
          first
            | (have kz : Blk w7 wr.heap.size 26 #[.int .i8 0, .int .i64 0, .int .i64 0, .int .i64 0, .int .i64 0, .slice none 0 0, .slice none 0 0, .int .i64 0] := (bk_new wr.drew 26 #[.int .i8 0, .int .i64 0, .int .i64 0, .int .i64 0, .int .i64 0, .slice none 0 0, .slice none 0 0, .int .i64 0] rfl).below b7 (by simp)
               have hb7 : Below wr.heap.size wr w7 := Below.trans (bal (Below.refl _ _).drew (.cells #[.int .i8 0, .int .i64 0, .int .i64 0, .int .i64 0, .int .i64 0, .slice none 0 0, .slice none 0 0, .int .i64 0] 26)) (b7.mono (by simp))
               obtain ⟨W8, st8, k8, fb8, fh8, fs8⟩ := bk_store (P := Tryd.prog) (ty := 26) (cs := #[.int .i8 d3.st, .int .i64 d3.pid, .int .i64 d3.ep, .int .i64 d3.tm, .int .i64 d3.th, .slice A7 d3.ps.length c7, .slice D7 d3.qs.length e7, .int .i64 d3.ag]) 8 kz infoCo rfl rfl (by simp [Value.oneCell'])
               have hb8 : Below wr.heap.size wr W8 := fb8 _ _ (Nat.le_refl _) hb7
               have hox := off7 w.heap.size (by have := K6.out.lt; simp; omega) O6.out.1 O6.out.2.1
               have hob := off7 wr.heap.size (by simp) (R6.out.1.offB (Nat.le_refl _)) (R6.out.2.1.offB (Nat.le_refl _))
               have R8 := Lib.hid (show CoR W8 W8.heap.size d3 A7 D7 by rw [fs8]; exact ⟨reads_hold r7.1 (fun hn ad e => fh8 _ (hob.1 hn ad e)), reads_hold r7.2.1 (fun hn ad e => fh8 _ (hob.2 hn ad e)), r7.2.2⟩)
               have HOX := Lib.hid hox
               have K8 := Lib.hid k8
               have HB8 := Lib.hid hb8
               have NX := Lib.hid (show ¬ wr.heap.size = w.heap.size by have := K6.out.lt; omega)
               clear kz k8 fb8 fh8 fs8 hox hob r7 b7 off7)
            | (have hb7 : Below wr.heap.size wr w7 := ⟨b7.os, b7.tape, b7.output, b7.size, b7.block⟩
               obtain ⟨W8, st8, k8, b8, s8⟩ := bk_fresh (P := Tryd.prog) w7 26 #[.int .i8 0, .int .i64 0, .int .i64 0, .int .i64 0, .int .i64 0, .slice none 0 0, .slice none 0 0, .int .i64 0] #[.int .i8 d3.st, .int .i64 d3.pid, .int .i64 d3.ep, .int .i64 d3.tm, .int .i64 d3.th, .slice A7 d3.ps.length c7, .slice D7 d3.qs.length e7, .int .i64 d3.ag] 8 infoCo rfl rfl (by simp [Value.oneCell'])
               have hb8 : Below wr.heap.size wr W8 := hb7.trans (b8.mono hb7.size)
               have hox := off7 w.heap.size K6.out.lt O6.out.1 O6.out.2.1
               have R8 := Lib.hid (show CoR W8 W8.heap.size d3 A7 D7 from r7.up b8)
               have HOX := Lib.hid hox
               have K8 := Lib.hid k8
               have HB8 := Lib.hid hb8
               have NX := Lib.hid (show ¬ w7.heap.size = w.heap.size by have := K6.out.lt; have := hb7.size; omega)
               clear k8 b8 s8 hox r7 b7 off7)))
      all_goals
        have BW8 := Lib.hid (BL6.out.trans (HB8.out.mono BL6.out.size))
        have KX := Lib.hid (K6.out.below HB8.out K6.out.lt)
        by_cases hz : z3 = 0
        · have F4 := Lib.hid (F3.out hz)
          subst hz
          have g0 : W8.cell? ⟨b1, o1 + k * 8, none⟩ = some (.int .i64 y.x.k) := CE.out _ BW8.out 0 _ rfl
          have x0 := KX.out.cell 0
          have x4 := KX.out.cell 4
          have L8 := bk_load (P := Tryd.prog) 8 K8.out rfl
          have MY := Lib.hid (May_any d3 A7 D7 c7 e7 W8.heap.size W8 R8.out (Nat.le_refl _))
          rw [F4.out.may] at MY
          have EP := Lib.hid (may_ep HF.out)
          have cw : IntKind.i64.wrap (c.ep + 1) = c.ep + 1 := IntWalk.i64_in _ (by have := EP.out; omega)
          clear hb7 hb8
          by_cases h0 : y.x.k = 0
          · have q0 : (y.x.k == 0) = true := by rw [h0]; rfl
            have q4 : (y.x.k == 4) = false := by rw [h0]; rfl
            by_cases hs : c.st = 0
            · have s0 : (c.st != 0) = false := by rw [hs]; rfl
              have ep1 : (d3.ep != c.ep) = false := by rw [F4.out.ep, show bumpB c y.x = false by unfold bumpB; rw [hs, h0]; rfl]; simp
              clear h0 hs
              go_wp2_with fail
              refine MY.out.mono ?_
              rintro e w9 ⟨rfl, b9⟩
              have BB := Lib.hid (show Below W8.heap.size W8 w9 from b9)
              have kx9 := KX.out.below b9 KX.out.lt
              have k89 := K8.out.below b9 K8.out.lt
              clear x0 x4 L8 g0
              have x0 := kx9.cell 0
              have x1 := kx9.cell 1
              have x2 := kx9.cell 2
              have y1 := k89.cell 1
              have y2 := k89.cell 2
              have g0 : w9.cell? ⟨b1, o1 + k * 8, none⟩ = some (.int .i64 y.x.k) := CE.out _ (BW8.out.trans (b9.mono BW8.out.size)) 0 _ rfl
              obtain ⟨W9, st9, q9⟩ := coat_store (w := w) (X := w.heap.size) A7 D7 c7 e7 kx9 rfl (R8.out.up b9) HOX.out.1 HOX.out.2 (BW8.out.trans (b9.mono BW8.out.size)) (Nat.le_refl _)
              have L9 := bk_load (P := Tryd.prog) 8 k89 rfl
              have Q9 := Lib.hid q9
              clear q9 b9 kx9 k89
              go_wp2_with fail
              go_roundg (gk - 1)
              case measure => have := HM.out; omega
              case rel => exact ⟨k + 1, d3, by omega, by go_num, by have := HM.out; omega, F4.out.may, Q9.out⟩
            · have s0 : (c.st != 0) = true := by simpa using hs
              have hb : bumpB c y.x = true := by unfold bumpB; rw [h0]; simpa using hs
              have ep1 : (d3.ep != c.ep) = true := by rw [F4.out.ep, hb]; simp; omega
              have ep2 : (d3.ep != c.ep + 1) = false := by rw [F4.out.ep, hb]; simp
              have pd : (d3.pid != c.pid) = false := by rw [F4.out.pid hs]; simp
              clear h0 hs hb
              go_wp2_with fail
              refine MY.out.mono ?_
              rintro e w9 ⟨rfl, b9⟩
              have BB := Lib.hid (show Below W8.heap.size W8 w9 from b9)
              have kx9 := KX.out.below b9 KX.out.lt
              have k89 := K8.out.below b9 K8.out.lt
              clear x0 x4 L8 g0
              have x0 := kx9.cell 0
              have x1 := kx9.cell 1
              have x2 := kx9.cell 2
              have y1 := k89.cell 1
              have y2 := k89.cell 2
              have g0 : w9.cell? ⟨b1, o1 + k * 8, none⟩ = some (.int .i64 y.x.k) := CE.out _ (BW8.out.trans (b9.mono BW8.out.size)) 0 _ rfl
              obtain ⟨W9, st9, q9⟩ := coat_store (w := w) (X := w.heap.size) A7 D7 c7 e7 kx9 rfl (R8.out.up b9) HOX.out.1 HOX.out.2 (BW8.out.trans (b9.mono BW8.out.size)) (Nat.le_refl _)
              have L9 := bk_load (P := Tryd.prog) 8 k89 rfl
              have Q9 := Lib.hid q9
              clear q9 b9 kx9 k89
              go_wp2_with fail
              go_roundg (gk - 1)
              case measure => have := HM.out; omega
              case rel => exact ⟨k + 1, d3, by omega, by go_num, by have := HM.out; omega, F4.out.may, Q9.out⟩
          · have q0 : (y.x.k == 0) = false := by simpa using h0
            by_cases h4 : y.x.k = 4
            · have q4 : (y.x.k == 4) = true := by rw [h4]; rfl
              obtain ⟨hst, hps, hqs, hen, hn2⟩ := F4.out.fin h4
              have hs : ¬ c.st = 0 := by omega
              have s0 : (c.st != 0) = true := by simpa using hs
              have pd : (d3.pid != c.pid) = false := by rw [F4.out.pid hs]; simp
              have l1 : d3.ps.length = 0 := by rw [hps]; rfl
              have l2 : d3.qs.length = 0 := by rw [hqs]; rfl
              have hdu : dueB d3 = false := by unfold dueB; simp [hn2]
              have L12 := Lib.hid (And.intro l1 l2)
              have DU := Lib.hid (fun W => Due_any d3 A7 D7 c7 e7 W)
              rw [hdu] at DU
              have hb : bumpB c y.x = decide (0 < c.th) := by unfold bumpB; rw [h4]; simp
              have mp := may_prep HF.out hst
              by_cases ht : 0 < c.th
              · have tb : decide (0 < c.th) = true := by simpa using ht
                have hs4 : c.st = 4 := by
                  rcases hst with h | h
                  · have := mp.2.2.2.2 h; omega
                  · exact h
                have e3 : (c.st == 3) = false := by rw [hs4]; rfl
                have e4 : (c.st != 4) = false := by rw [hs4]; rfl
                have ep1 : (d3.ep != c.ep) = true := by rw [F4.out.ep, hb, tb]; simp; omega
                have ep2 : (d3.ep != c.ep + 1) = false := by rw [F4.out.ep, hb, tb]; simp
                clear h0 h4 hst hps hqs hen hn2 hs l1 l2 hdu hb mp ht hs4
                go_wp2_with fail
                refine MY.out.mono ?_
                rintro e w9 ⟨rfl, b9⟩
                have BB := Lib.hid (show Below W8.heap.size W8 w9 from b9)
                have kx9 := KX.out.below b9 KX.out.lt
                have k89 := K8.out.below b9 K8.out.lt
                clear x0 x4 L8 g0
                have x0 := kx9.cell 0
                have x1 := kx9.cell 1
                have x2 := kx9.cell 2
                have y1 := k89.cell 1
                have y2 := k89.cell 2
                have g0 : w9.cell? ⟨b1, o1 + k * 8, none⟩ = some (.int .i64 y.x.k) := CE.out _ (BW8.out.trans (b9.mono BW8.out.size)) 0 _ rfl
                have y5 := k89.cell 5
                have y6 := k89.cell 6
                have L9 := bk_load (P := Tryd.prog) 8 k89 rfl
                have lw : IntKind.i64.wrap ((d3.ps.length : Int) + (d3.qs.length : Int)) = (d3.ps.length : Int) + (d3.qs.length : Int) := IntWalk.i64_in _ (by have := L12.out.1; have := L12.out.2; omega)
                have lz : decide ((0 : Int) < (d3.ps.length : Int) + (d3.qs.length : Int)) = false := decide_eq_false (by have := L12.out.1; have := L12.out.2; omega)
                clear b9 kx9 k89
                go_wp2_with fail
                refine (DU.out _).mono ?_
                rintro e w12 ⟨rfl, b12⟩
                have B12 := Lib.hid (BB.out.trans (b12.mono BB.out.size))
                obtain ⟨W9, st9, q9⟩ := coat_store (w := w) (X := w.heap.size) A7 D7 c7 e7 (KX.out.below B12.out KX.out.lt) rfl (R8.out.up B12.out) HOX.out.1 HOX.out.2 (BW8.out.trans (B12.out.mono BW8.out.size)) (Nat.le_refl _)
                have L12' := bk_load (P := Tryd.prog) 8 (K8.out.below B12.out K8.out.lt) rfl
                have Q9 := Lib.hid q9
                clear q9 b12 L9
                go_wp2_with fail
                go_roundg (gk - 1)
                case measure => have := HM.out; omega
                case rel => exact ⟨k + 1, d3, by omega, by go_num, by have := HM.out; omega, F4.out.may, Q9.out⟩
              · have tb : decide (0 < c.th) = false := by simpa using ht
                have hbf : bumpB c y.x = false := by rw [hb, tb]
                have hen' := hen hbf
                have ep1 : (d3.ep != c.ep) = false := by rw [F4.out.ep, hbf]; simp
                rcases hst with hst | hst
                · have e3 : (c.st == 3) = true := by rw [hst]; rfl
                  have hd5 : d3.st = 5 := by rw [hen', if_pos hst]
                  have E1 := Lib.hid (fun W => Ended_any d3 A7 D7 c7 e7 true W)
                  have E2 := Lib.hid (fun W => Ended_any d3 A7 D7 c7 e7 false W)
                  rw [show endedB d3 true = true by unfold endedB; rw [hd5]; rfl] at E1
                  rw [show endedB d3 false = false by unfold endedB; rw [hd5]; rfl] at E2
                  clear h0 h4 hst hps hqs hen hn2 hs l1 l2 hdu hb mp ht hbf hen' hd5
                  go_wp2_with fail
                  refine MY.out.mono ?_
                  rintro e w9 ⟨rfl, b9⟩
                  have BB := Lib.hid (show Below W8.heap.size W8 w9 from b9)
                  have kx9 := KX.out.below b9 KX.out.lt
                  have k89 := K8.out.below b9 K8.out.lt
                  clear x0 x4 L8 g0
                  have x0 := kx9.cell 0
                  have x1 := kx9.cell 1
                  have x2 := kx9.cell 2
                  have y1 := k89.cell 1
                  have y2 := k89.cell 2
                  have g0 : w9.cell? ⟨b1, o1 + k * 8, none⟩ = some (.int .i64 y.x.k) := CE.out _ (BW8.out.trans (b9.mono BW8.out.size)) 0 _ rfl
                  have y5 := k89.cell 5
                  have y6 := k89.cell 6
                  have L9 := bk_load (P := Tryd.prog) 8 k89 rfl
                  have lw : IntKind.i64.wrap ((d3.ps.length : Int) + (d3.qs.length : Int)) = (d3.ps.length : Int) + (d3.qs.length : Int) := IntWalk.i64_in _ (by have := L12.out.1; have := L12.out.2; omega)
                  have lz : decide ((0 : Int) < (d3.ps.length : Int) + (d3.qs.length : Int)) = false := decide_eq_false (by have := L12.out.1; have := L12.out.2; omega)
                  clear b9 kx9 k89
                  go_wp2_with fail
                  refine (E1.out _).mono ?_
                  rintro e w10 ⟨rfl, b10⟩
                  have B10 := Lib.hid (BB.out.trans (b10.mono BB.out.size))
                  have L10 := bk_load (P := Tryd.prog) 8 (K8.out.below B10.out K8.out.lt) rfl
                  clear L9 b10
                  go_wp2_with fail
                  refine (E2.out _).mono ?_
                  rintro e w11 ⟨rfl, b11⟩
                  have BBB := Lib.hid (B10.out.trans (b11.mono B10.out.size))
                  have L11 := bk_load (P := Tryd.prog) 8 (K8.out.below BBB.out K8.out.lt) rfl
                  clear L10 b11
                  go_wp2_with fail
                  refine (DU.out _).mono ?_
                  rintro e w12 ⟨rfl, b12⟩
                  have B12 := Lib.hid (BBB.out.trans (b12.mono BBB.out.size))
                  obtain ⟨W9, st9, q9⟩ := coat_store (w := w) (X := w.heap.size) A7 D7 c7 e7 (KX.out.below B12.out KX.out.lt) rfl (R8.out.up B12.out) HOX.out.1 HOX.out.2 (BW8.out.trans (B12.out.mono BW8.out.size)) (Nat.le_refl _)
                  have L12' := bk_load (P := Tryd.prog) 8 (K8.out.below B12.out K8.out.lt) rfl
                  have Q9 := Lib.hid q9
                  clear q9 b12 L11
                  go_wp2_with fail
                  go_roundg (gk - 1)
                  case measure => have := HM.out; omega
                  case rel => exact ⟨k + 1, d3, by omega, by go_num, by have := HM.out; omega, F4.out.may, Q9.out⟩
                · have e3 : (c.st == 3) = false := by rw [hst]; rfl
                  have e4 : (c.st != 4) = false := by rw [hst]; rfl
                  have hd6 : d3.st = 6 := by rw [hen', if_neg (by omega)]
                  have E1 := Lib.hid (fun W => Ended_any d3 A7 D7 c7 e7 false W)
                  have E2 := Lib.hid (fun W => Ended_any d3 A7 D7 c7 e7 true W)
                  rw [show endedB d3 false = true by unfold endedB; rw [hd6]; rfl] at E1
                  rw [show endedB d3 true = false by unfold endedB; rw [hd6]; rfl] at E2
                  clear h0 h4 hst hps hqs hen hn2 hs l1 l2 hdu hb mp ht hbf hen' hd6
                  go_wp2_with fail
                  refine MY.out.mono ?_
                  rintro e w9 ⟨rfl, b9⟩
                  have BB := Lib.hid (show Below W8.heap.size W8 w9 from b9)
                  have kx9 := KX.out.below b9 KX.out.lt
                  have k89 := K8.out.below b9 K8.out.lt
                  clear x0 x4 L8 g0
                  have x0 := kx9.cell 0
                  have x1 := kx9.cell 1
                  have x2 := kx9.cell 2
                  have y1 := k89.cell 1
                  have y2 := k89.cell 2
                  have g0 : w9.cell? ⟨b1, o1 + k * 8, none⟩ = some (.int .i64 y.x.k) := CE.out _ (BW8.out.trans (b9.mono BW8.out.size)) 0 _ rfl
                  have y5 := k89.cell 5
                  have y6 := k89.cell 6
                  have L9 := bk_load (P := Tryd.prog) 8 k89 rfl
                  have lw : IntKind.i64.wrap ((d3.ps.length : Int) + (d3.qs.length : Int)) = (d3.ps.length : Int) + (d3.qs.length : Int) := IntWalk.i64_in _ (by have := L12.out.1; have := L12.out.2; omega)
                  have lz : decide ((0 : Int) < (d3.ps.length : Int) + (d3.qs.length : Int)) = false := decide_eq_false (by have := L12.out.1; have := L12.out.2; omega)
                  clear b9 kx9 k89
                  go_wp2_with fail
                  refine (E1.out _).mono ?_
                  rintro e w10 ⟨rfl, b10⟩
                  have B10 := Lib.hid (BB.out.trans (b10.mono BB.out.size))
                  have L10 := bk_load (P := Tryd.prog) 8 (K8.out.below B10.out K8.out.lt) rfl
                  clear L9 b10
                  go_wp2_with fail
                  refine (E2.out _).mono ?_
                  rintro e w11 ⟨rfl, b11⟩
                  have BBB := Lib.hid (B10.out.trans (b11.mono B10.out.size))
                  have L11 := bk_load (P := Tryd.prog) 8 (K8.out.below BBB.out K8.out.lt) rfl
                  clear L10 b11
                  go_wp2_with fail
                  refine (DU.out _).mono ?_
                  rintro e w12 ⟨rfl, b12⟩
                  have B12 := Lib.hid (BBB.out.trans (b12.mono BBB.out.size))
                  obtain ⟨W9, st9, q9⟩ := coat_store (w := w) (X := w.heap.size) A7 D7 c7 e7 (KX.out.below B12.out KX.out.lt) rfl (R8.out.up B12.out) HOX.out.1 HOX.out.2 (BW8.out.trans (B12.out.mono BW8.out.size)) (Nat.le_refl _)
                  have L12' := bk_load (P := Tryd.prog) 8 (K8.out.below B12.out K8.out.lt) rfl
                  have Q9 := Lib.hid q9
                  clear q9 b12 L11
                  go_wp2_with fail
                  go_roundg (gk - 1)
                  case measure => have := HM.out; omega
                  case rel => exact ⟨k + 1, d3, by omega, by go_num, by have := HM.out; omega, F4.out.may, Q9.out⟩
            · have q4 : (y.x.k == 4) = false := by simpa using h4
              have hbf : bumpB c y.x = false := by unfold bumpB; rw [q0, q4]; rfl
              have ep1 : (d3.ep != c.ep) = false := by rw [F4.out.ep, hbf]; simp
              by_cases hs : c.st = 0
              · have s0 : (c.st != 0) = false := by rw [hs]; rfl
                clear h0 h4 hs hbf
                go_wp2_with fail
                refine MY.out.mono ?_
                rintro e w9 ⟨rfl, b9⟩
                have BB := Lib.hid (show Below W8.heap.size W8 w9 from b9)
                have kx9 := KX.out.below b9 KX.out.lt
                have k89 := K8.out.below b9 K8.out.lt
                clear x0 x4 L8 g0
                have x0 := kx9.cell 0
                have x1 := kx9.cell 1
                have x2 := kx9.cell 2
                have y1 := k89.cell 1
                have y2 := k89.cell 2
                have g0 : w9.cell? ⟨b1, o1 + k * 8, none⟩ = some (.int .i64 y.x.k) := CE.out _ (BW8.out.trans (b9.mono BW8.out.size)) 0 _ rfl
                obtain ⟨W9, st9, q9⟩ := coat_store (w := w) (X := w.heap.size) A7 D7 c7 e7 kx9 rfl (R8.out.up b9) HOX.out.1 HOX.out.2 (BW8.out.trans (b9.mono BW8.out.size)) (Nat.le_refl _)
                have L9 := bk_load (P := Tryd.prog) 8 k89 rfl
                have Q9 := Lib.hid q9
                clear q9 b9 kx9 k89
                go_wp2_with fail
                go_roundg (gk - 1)
                case measure => have := HM.out; omega
                case rel => exact ⟨k + 1, d3, by omega, by go_num, by have := HM.out; omega, F4.out.may, Q9.out⟩
              · have s0 : (c.st != 0) = true := by simpa using hs
                have pd : (d3.pid != c.pid) = false := by rw [F4.out.pid hs]; simp
                clear h0 h4 hs hbf
                go_wp2_with fail
                refine MY.out.mono ?_
                rintro e w9 ⟨rfl, b9⟩
                have BB := Lib.hid (show Below W8.heap.size W8 w9 from b9)
                have kx9 := KX.out.below b9 KX.out.lt
                have k89 := K8.out.below b9 K8.out.lt
                clear x0 x4 L8 g0
                have x0 := kx9.cell 0
                have x1 := kx9.cell 1
                have x2 := kx9.cell 2
                have y1 := k89.cell 1
                have y2 := k89.cell 2
                have g0 : w9.cell? ⟨b1, o1 + k * 8, none⟩ = some (.int .i64 y.x.k) := CE.out _ (BW8.out.trans (b9.mono BW8.out.size)) 0 _ rfl
                obtain ⟨W9, st9, q9⟩ := coat_store (w := w) (X := w.heap.size) A7 D7 c7 e7 kx9 rfl (R8.out.up b9) HOX.out.1 HOX.out.2 (BW8.out.trans (b9.mono BW8.out.size)) (Nat.le_refl _)
                have L9 := bk_load (P := Tryd.prog) 8 k89 rfl
                have Q9 := Lib.hid q9
                clear q9 b9 kx9 k89
                go_wp2_with fail
                go_roundg (gk - 1)
                case measure => have := HM.out; omega
                case rel => exact ⟨k + 1, d3, by omega, by go_num, by have := HM.out; omega, F4.out.may, Q9.out⟩
        · have ez : (z3 != 0) = true := by simpa using hz
          have Q9 := Lib.hid (U5.out.below HB8.out)
          clear hz hb7 hb8
          go_wp2_with fail
          go_roundg (gk - 1)
          case measure => have := HM.out; omega
          case rel => exact ⟨k + 1, c, by omega, by go_num, by have := HM.out; omega, HF.out, Q9.out⟩
    · obtain rfl : k = l.length := by omega
      have d1' : decide ((l.length : Int) < (l.length : Int)) = false := by simp
      obtain ⟨_, _, _, _, _, _, _, _, bl5, _⟩ := U5.out
      have BL5 := Lib.hid bl5
      clear bl5
      go_wp2_with fail
      refine (WK.out _ BL5.out).mono ?_
      rintro e w9 ⟨rfl, b9⟩
      go_wp2_with fail
      go_ret
      exact ⟨rfl, btrans BL5.out b9⟩
end
theorem run_walk (A1 : Option Addr) (l : List MvM) (c1 : Nat) (w : World) (hg : HasET w) (hr : Reads w w.heap.size 8 A1 l.length (cellsM l)) (hm : ∀ m ∈ l, MvRaw w m.x m.L) :
    Calls Tryd.prog 7 #[.slice A1 l.length c1] w fun e w' => e = .returned (.bool true) ∧ Below w.heap.size w w' := by
  rcases Nat.lt_or_ge 200 l.length with h | hn
  · exact run_a A1 l.length c1 w hg h
  · exact run_b A1 l c1 w hg hn hr hm
end Go.Proofs.YtagclnmchkgpdaaDoor
namespace Go.Proofs.YtagclnmchkgpdaaDoor.statesRun
open Go.ChangeShapes Go.WideShapes Go.ChangeAt Go.RowKit
open Go.ChangeMaps (open_string shut_string)
set_option linter.unusedVariables false

theorem laid_met (os : Os) : laidMetH Tryd.prog Rows.statesRunRow.laid ((laidWorld os).forCall (fun _ _ => 0) ⟨#[], #[.slice none 0 0], []⟩).memory :=
  laidMetH_of_parts (laidMet_nil _ _) (by kernel_rfl)
theorem reads (os : Os) {H : Type} (enc : TypeId × Value → H) : ∃ places, DataW.whole enc Tryd.prog ((laidWorld os).forCall (fun _ _ => 0) ⟨#[], #[.slice none 0 0], []⟩).memory Tryd.f7.params.toList Rows.statesRunSpec.vars false (#[.slice none 0 0] : Array Value).toList 8 = some ([.nil], [], places) :=
  ⟨[], by kernel_rfl⟩

set_option maxRecDepth 100000 in
theorem lifted (os : Os) (started : os.Started) (H : Type) (enc : TypeId × Value → H) (F : Stop.Interp) :
    ReturnsInHanded {} Tryd.checked os 7 .any ((OpenSpec.ofChange Rows.statesRunSpec).preRow enc Tryd.prog Tryd.f7 Rows.statesRunRow.domain false Rows.statesRunRow.laid) (((OpenSpec.ofChange Rows.statesRunSpec).at F).post enc Tryd.prog Tryd.f7 false true false false) := by
  obtain ⟨places, hx⟩ := reads os enc
  refine returnsInHanded_of_row (C := Tryd.checked) (s := OpenSpec.ofChange Rows.statesRunSpec) own started (by kernel_rfl) Tryd.func7
    (witness_row_at (enc := enc) (C := Tryd.checked) false (laidWorld os) #[.slice none 0 0] rfl (by kernel_rfl) (by kernel_rfl) (by kernel_rfl)
      (OpenSpec.preRow_of_cond 8 hx (by kernel_rfl) (fun k hk => by cases hk) (by kernel_rfl) (laid_met os))) ?_
  intro W base args ds gs before hval0 hW _ _ hsz0 hL _ _
  have hg : HasET W := hasErr_of_laid hL
  have hval : ∀ (j : Nat) t v, Tryd.f7.params[j]? = some t → args[j]? = some v → Value.okWide Tryd.prog W .any base t v := hval0
  have hsz : (DataW.weightsEach Tryd.prog (Tryd.f7.params.toList ++ Rows.statesRunSpec.plain.varTypes Tryd.prog) (ds ++ gs)).all (· ≤ reachBytes) = true := hsz0
  have hW' := hW
  obtain ⟨p, q, hA0, hV, rfl, hfz, hnd⟩ := hW
  have hA : DataW.TrodAll enc Tryd.prog W 0 (fun _ => true) true Tryd.f7.params.toList args.toList ds p := hA0
  rw [Tryd.params7] at hA hval hsz
  obtain ⟨v0, vs0, d0, ds0, p0, q0, hargs, rfl, rfl, h0, r0⟩ := trodAll_cons hA
  obtain ⟨rfl, rfl, rfl⟩ := trodAll_nil r0
  obtain rfl : args = #[v0] := by cases args; simp_all
  obtain ⟨rfl, rfl⟩ := trodVars_none hV
  have k0 := h0
  have lt0 : ∀ x ∈ p0, x.block < W.heap.size := by obtain ⟨m, hm⟩ := k0; exact DataW.trod_lt m _ _ _ hm
  obtain ⟨A0, c0, rl0, rfl, rr0, rw0⟩ := open_mvs (hval 0 43 v0 rfl rfl) h0
  clear hA0 hval0 hsz0
  refine (run_walk A0 rl0 c0 W hg rr0 rw0).mono fun e W' ⟨he, bel⟩ => ?_
  subst he
  exact ⟨_, rfl, _, _, _, [], _, [], hW', trodAll_mk1 (shut_bool Tryd.underlying4 _), (trodAll_cons_mk (Below.trod laidOut (by kernel_rfl) (of_decide_eq_true (by kernel_rfl)) k0 bel lt0) trodAll_mk0), rfl, bel.frame _, fun h => by cases h⟩

theorem said : Rows.StatesRunSaid :=
  OpenClaim.holds_of_cond 7 Tryd.f7 rfl rfl rfl rfl rfl rfl rfl ⟨rfl, rfl, rfl, rfl, rfl⟩ rfl rfl rfl rfl rfl (by kernel_rfl) Tryd.func7 (by kernel_rfl)
    (of_decide_eq_true (by kernel_rfl)) (by unfold Func.isWrapper; first | (rw [if_pos (by decide +kernel)]; kernel_rfl) | (rw [if_neg (by decide +kernel)]; exact ⟨rfl, rfl⟩))
    (fun os started H enc _ F => by rw [OpenClaim.pre_eq_preRow]; exact lifted os started H enc F)

theorem plain (f : FuncId) (fn : Func) (hf : Tryd.pinned.checked.prog.funcNamed "roving/rovinglaw18.StatesRun" = some f) (hfn : Tryd.pinned.checked.prog.funcs[f]? = some fn) :
    true = Tryd.pinned.checked.prog.looks [] ∧ ∀ (j : Nat) t, fn.params[j]? = some t → Tryd.pinned.checked.prog.wantsStandIn t = false := by
  obtain rfl : f = 7 := Option.some.inj ((show Tryd.prog.funcNamed "roving/rovinglaw18.StatesRun" = some 7 by kernel_rfl).symm.trans hf) |>.symm
  obtain rfl : fn = Tryd.f7 := (Option.some.inj (Tryd.func7.symm.trans hfn)).symm
  refine ⟨by kernel_rfl, fun j t ht => ?_⟩
  rw [Tryd.params7] at ht
  have hm : t = 43 := by simpa using Array.mem_of_getElem? ht
  subst hm; exact (show Tryd.prog.wantsStandIn _ = false by kernel_rfl)

/-- THE CARD. -/
theorem card : Rows.StatesRunCardSaid :=
  Claim7.holds_tied_plain_at .later [] _ _ _ _ said (fun _ h => by cases h) (by kernel_rfl) (fun _ h => by cases h) statesRun_row_tie rfl ⟨rfl, rfl⟩ (by kernel_rfl) rfl plain (by kernel_rfl)
end Go.Proofs.YtagclnmchkgpdaaDoor.statesRun
