/-
  Arguments that are entries of a coordinator's log, or slices of these, opened.
  The statement MetaOffsets: its walk.
  Arguments with lists of numbers and of offsets, opened: how their lists lie in memory. (After the guide's page on structs.)
  Arguments that are whole states, opened.
-/
import Derived.Test.YtbpkckahonmpkaaDoorMeOffsetsProofP16
import Derived.Deep.Slices
import Derived.Deep.Fields
import Derived.ChangeSame
import Derived.OpenShut
import Derived.Lib.SmallJoins
set_option linter.unusedVariables false
set_option linter.unusedSimpArgs false
namespace Go.Proofs.YtbpkckahonmpkaaDoor
open Go.RowKit
theorem grs_want {s : Sta} {f : Nat → Int} (h : ∀ g, g < 6 → f g = s.gr g) : grsB s ⟨0, fun _ => Co0, f⟩ = true := by
  unfold grsB
  show (((s.gr 0 == f 0) && ((s.gr 1 == f 1) && (s.gr 2 == f 2))) && ((s.gr 3 == f 3) && ((s.gr 4 == f 4) && (s.gr 5 == f 5)))) = true
  rw [h 0 (by decide), h 1 (by decide), h 2 (by decide), h 3 (by decide), h 4 (by decide), h 5 (by decide)]
  simp
def cW (want wait : Nat → Int) (yes : Nat → Bool) (t n : Nat) : Nat → Int := fun j => if j < n ∧ yes t = true ∧ 0 < wait (t * 6 + j) then wait (t * 6 + j) - 1 else want j
def cT (wait : Nat → Int) (t n : Nat) : Nat → Int := fun i => if t * 6 ≤ i ∧ i < t * 6 + n then 0 else wait i
theorem cT_at (wait : Nat → Int) (t n : Nat) : cT wait t n (t * 6 + n) = wait (t * 6 + n) := if_neg (by omega)
theorem cT_step (wait : Nat → Int) (t n : Nat) : upd (cT wait t n) (t * 6 + n) 0 = cT wait t (n + 1) := by
  funext i
  unfold upd cT
  by_cases h : i = t * 6 + n
  · rw [if_pos h, if_pos (by omega)]
  · rw [if_neg h]
    by_cases h2 : t * 6 ≤ i ∧ i < t * 6 + n
    · rw [if_pos h2, if_pos (by omega)]
    · rw [if_neg h2, if_neg (by omega)]
theorem cW_step (want wait : Nat → Int) (yes : Nat → Bool) (t n : Nat) (h : yes t = true ∧ 0 < wait (t * 6 + n)) : upd (cW want wait yes t n) n (wait (t * 6 + n) - 1) = cW want wait yes t (n + 1) := by
  funext j
  unfold upd cW
  by_cases e : j = n
  · rw [if_pos e, e, if_pos ⟨Nat.lt_succ_self n, h.1, h.2⟩]
  · rw [if_neg e]
    by_cases h2 : j < n ∧ yes t = true ∧ 0 < wait (t * 6 + j)
    · rw [if_pos h2, if_pos ⟨by omega, h2.2⟩]
    · rw [if_neg h2, if_neg (fun x => h2 ⟨by omega, x.2⟩)]
theorem cW_same (want wait : Nat → Int) (yes : Nat → Bool) (t n : Nat) (h : ¬ (yes t = true ∧ 0 < wait (t * 6 + n))) : cW want wait yes t n = cW want wait yes t (n + 1) := by
  funext j
  unfold cW
  by_cases h2 : j < n ∧ yes t = true ∧ 0 < wait (t * 6 + j)
  · rw [if_pos h2, if_pos ⟨by omega, h2.2⟩]
  · rw [if_neg h2, if_neg (fun x => by
      by_cases e : j = n
      · subst e; exact h x.2
      · exact h2 ⟨by omega, x.2⟩)]
/-- All but two blocks is kept, nothing is made. -/
structure Two (b1 b2 : Nat) (w w' : World) : Prop where
  size : w'.heap.size = w.heap.size
  keep : ∀ y, y ≠ b1 → y ≠ b2 → w'.heap[y]? = w.heap[y]?
theorem Two.refl (b1 b2 : Nat) (w : World) : Two b1 b2 w w := ⟨rfl, fun _ _ _ => rfl⟩
theorem Two.trans {b1 b2 : Nat} {a b c : World} (h : Two b1 b2 a b) (k : Two b1 b2 b c) : Two b1 b2 a c := ⟨k.size.trans h.size, fun y h1 h2 => (k.keep y h1 h2).trans (h.keep y h1 h2)⟩
theorem Two.fst {b1 b2 : Nat} {w w' : World} (k : ∀ y, y ≠ b1 → w'.heap[y]? = w.heap[y]?) (hs : w'.heap.size = w.heap.size) : Two b1 b2 w w' := ⟨hs, fun y h _ => k y h⟩
theorem Two.snd {b1 b2 : Nat} {w w' : World} (k : ∀ y, y ≠ b2 → w'.heap[y]? = w.heap[y]?) (hs : w'.heap.size = w.heap.size) : Two b1 b2 w w' := ⟨hs, fun y _ h => k y h⟩
theorem Two.drew (b1 b2 : Nat) (w : World) : Two b1 b2 w w.drew := ⟨rfl, fun _ _ _ => rfl⟩
theorem Blk.two {b1 b2 b : Nat} {w w' : World} {t : TypeId} {cs : Array Value} (h : Blk w b t cs) (k : Two b1 b2 w w') (h1 : b ≠ b1) (h2 : b ≠ b2) : Blk w' b t cs := (k.keep b h1 h2).trans h
/-- A state's lists, which are new since lo. -/
def StL (w : World) (lo : Nat) (s : Sta) (a : Sad) : Prop := ∀ j, j < 3 → CoR w w.heap.size (s.tid j) (a.A j) (a.D j) ∧ NewAt lo (s.tid j).ps.length (a.A j) ∧ NewAt lo (s.tid j).qs.length (a.D j)
theorem StL.below {w w' : World} {lo : Nat} {s : Sta} {a : Sad} (h : StL w lo s a) (hb : Below w.heap.size w w') : StL w' lo s a := fun j hj => ⟨(h j hj).1.up hb, (h j hj).2⟩
theorem StL.two {w w' : World} {lo b1 b2 : Nat} {s : Sta} {a : Sad} (h : StL w lo s a) (k : Two b1 b2 w w') (h1 : b1 < lo) (h2 : b2 < lo) : StL w' lo s a := fun j hj => by
  refine ⟨?_, (h j hj).2⟩
  rw [k.size]
  exact ⟨reads_keepS (h j hj).1.1 (fun hn ad e => k.keep _ (by have := newAt_blockS (h j hj).2.1 hn e; omega) (by have := newAt_blockS (h j hj).2.1 hn e; omega)), reads_keepS (h j hj).1.2.1 (fun hn ad e => k.keep _ (by have := newAt_blockS (h j hj).2.2 hn e; omega) (by have := newAt_blockS (h j hj).2.2 hn e; omega)), (h j hj).1.2.2⟩
section
attribute [-go_sem] loadCells storeVar
set_option maxRecDepth 100000 in
set_option maxHeartbeats 16000000 in
theorem mofs_walk (l : List MtM) (A : Option Addr) (c : Nat) (w : World) (hg : HasET w) (hr : Reads w w.heap.size 17 A l.length (cellsE l)) (hm : ∀ y ∈ l, MtRaw w y.x y.A y.D) :
    Calls Tryd.prog 4 #[.slice A l.length c] w fun e w' => e = .returned (.bool true) ∧ Below w.heap.size w w' := by
  have GL := Lib.hid (greatL_any l A c w hr)
  have HR := Lib.hid hr
  have HM := Lib.hid hm
  have HG := Lib.hid hg
  clear hr hm hg
  obtain ⟨u, hu⟩ : ∃ u, bigL l = u := ⟨_, rfl⟩
  rw [hu] at GL
  go_enter Tryd.func4, Tryd.ntmps4
  go_wp2_with fail
  refine GL.out.mono ?_
  rintro e w1 ⟨rfl, b1⟩
  have B1 := Lib.hid b1
  clear b1
  cases u
  rotate_left
  · clear hu
    have WK := Lib.hid (wakes20 w1 (HG.out.up B1.out))
    go_wp2_with fail
    refine WK.out.mono ?_
    rintro e w99 ⟨rfl, b99⟩
    have B99 := Lib.hid (B1.out.trans (b99.mono B1.out.size))
    clear b99
    go_wp2_with fail
    go_ret
    exact ⟨rfl, B99.out⟩
  have HN := Lib.hid (bigL_no hu)
  have ML := Lib.hid (show MtsR w w.heap.size l from fun y hy => (HM.out y hy).co (HN.out.2 y hy))
  clear hu
  obtain ⟨W2, hW2⟩ : ∃ W2, W2 = w1.alloc (.cells (arrI 6 fun _ => 0) 29) := ⟨_, rfl⟩
  have b2 : Below w.heap.size w W2 := by rw [hW2]; exact bal B1.out _
  have k2 : Blk W2 w1.heap.size 29 (arrI 6 fun _ => 0) := by rw [hW2]; exact Blk.new _ _ _
  have HW2 := Lib.hid hW2
  have B2 := Lib.hid b2
  have K2 := Lib.hid k2
  clear hW2 b2 k2
  go_upto_region 4 with (fail)
  change Code.wp _ _ _ _ (w1.alloc (.cells (arrI 6 fun _ => 0) 29))
  rw [← HW2.out]
  go_wp2_with fail
  go_loopg [4] 2 (fun mm y wq => ∃ (g : Nat), g ≤ 2 ∧ y = .int .i64 g ∧ mm = 2 - g ∧ Blk wq w1.heap.size 29 (arrI 6 fun j => if j < g * 3 then -1 else 0) ∧ Below w.heap.size w wq)
  case atStart => exact ⟨0, by omega, rfl, rfl, K2.out, B2.out⟩
  case round =>
    obtain ⟨g, hg, rfl, hmg, hkb, hbg⟩ := hrel
    have HMG := Lib.hid hmg
    have KG := Lib.hid hkb
    have BG := Lib.hid hbg
    clear hmg hkb hbg
    by_cases hlg : g < 2
    · have dg : decide ((g : Int) < 2) = true := decide_eq_true (by omega)
      have g1 : (0 : Int) ≤ (g : Int) := by omega
      have g2 : (g : Int) < 2 := by omega
      go_wp2_with fail
      go_loopg [5] 3 (fun mm y wv => ∃ (q : Nat), q ≤ 3 ∧ y = .int .i64 q ∧ mm = 3 - q ∧ Blk wv w1.heap.size 29 (arrI 6 fun j => if j < g * 3 + q then -1 else 0) ∧ Below w.heap.size w wv)
      case atStart => exact ⟨0, by omega, rfl, rfl, KG.out, BG.out⟩
      case round =>
        obtain ⟨q, hq, rfl, hmq, hkq, hbq⟩ := hrel
        have HMQ := Lib.hid hmq
        have KQ := Lib.hid hkq
        have BQ := Lib.hid hbq
        clear hmq hkq hbq
        by_cases hlq : q < 3
        · have dq : decide ((q : Int) < 3) = true := decide_eq_true (by omega)
          have q1 : (0 : Int) ≤ (q : Int) := by omega
          have q2 : (q : Int) < 3 := by omega
          obtain ⟨W9, st9, k9, fb9, fh9, fs9⟩ := arI_put KQ.out (g * 3 + q) (by omega) (-1)
          have K9 := Lib.hid (show Blk W9 w1.heap.size 29 (arrI 6 fun j => if j < g * 3 + (q + 1) then -1 else 0) by
            rw [show (arrI 6 fun j => if j < g * 3 + (q + 1) then -1 else 0) = arrI 6 (upd (fun j => if j < g * 3 + q then -1 else 0) (g * 3 + q) (-1)) from arrI_congr (fun j _ => by
              show (if j < g * 3 + (q + 1) then (-1 : Int) else 0) = if j = g * 3 + q then -1 else if j < g * 3 + q then -1 else 0
              by_cases h : j = g * 3 + q
              · rw [if_pos h, if_pos (by omega)]
              · rw [if_neg h]
                by_cases h2 : j < g * 3 + q
                · rw [if_pos h2, if_pos (by omega)]
                · rw [if_neg h2, if_neg (by omega)])]
            exact k9)
          have B9 := Lib.hid (fb9 w.heap.size w B1.out.size BQ.out)
          clear k9 fb9 fh9 fs9
          go_wp2_with fail
          go_roundg (gk - 1)
          case measure => have := HMQ.out; omega
          case rel => exact ⟨q + 1, by omega, by go_num, by have := HMQ.out; omega, K9.out, B9.out⟩
        · obtain rfl : q = 3 := by omega
          have dq : decide (((3 : Nat) : Int) < 3) = false := by decide
          go_wp2_with fail
          go_roundg (2 - g - 1)
          case measure => have := HMG.out; omega
          case rel => exact ⟨g + 1, by omega, by go_num, by omega, by rw [show (g + 1) * 3 = g * 3 + 3 by omega]; exact KQ.out, BQ.out⟩
    · obtain rfl : g = 2 := by omega
      have dg : decide (((2 : Nat) : Int) < 2) = false := by decide
      have OI0 := Lib.hid (show OfI sta0 (fun j => if j < 6 then -1 else 0) (fun _ => 0) (fun _ => false) from ⟨fun g hg => if_pos hg, OfI.start.wait, OfI.start.yes⟩)
      obtain ⟨W4, hW4⟩ : ∃ W4, W4 = (wr.alloc (.cells (arrI 18 fun _ => 0) 46)).alloc (.cells (arrB 3 fun _ => false) 47) := ⟨_, rfl⟩
      have s4 : W4.heap.size = wr.heap.size + 1 + 1 := by rw [hW4]; simp
      have b4 : Below wr.heap.size wr W4 := by rw [hW4]; exact bal (bal (Below.refl _ _) _) _
      have kt : Blk W4 wr.heap.size 46 (arrI 18 fun _ => 0) := by rw [hW4]; exact (Blk.new _ _ _).alloc _
      have ky : Blk W4 (wr.heap.size + 1) 47 (arrB 3 fun _ => false) := by rw [hW4]; exact bk_new _ 47 _ (by simp)
      have HW4 := Lib.hid hW4
      have S4 := Lib.hid s4
      have B4 := Lib.hid (BG.out.trans (b4.mono BG.out.size))
      have KW4 := Lib.hid (KG.out.below b4 KG.out.lt)
      have KT4 := Lib.hid kt
      have KY4 := Lib.hid ky
      have NW := Lib.hid (show w1.heap.size < wr.heap.size from KG.out.lt)
      clear hW4 s4 b4 kt ky
      go_upto_region 13 with (fail)
      change Code.wp _ _ _ _ ((wr.alloc (.cells (arrI 18 fun _ => 0) 46)).alloc (.cells (arrB 3 fun _ => false) 47))
      rw [← HW4.out]
      go_wp2_with fail
      refine (mFirst_any W4).mono ?_
      rintro e w5 ⟨rfl, b5⟩
      obtain ⟨W6, st6, k6, b6, s6⟩ := bk_fresh (P := Tryd.prog) w5 31 #[.int .i64 0, .int .i8 0, .int .i64 0, .int .i64 0, .int .i64 0, .int .i64 0, .slice none 0 0, .slice none 0 0, .int .i64 0, .int .i8 0, .int .i64 0, .int .i64 0, .int .i64 0, .int .i64 0, .slice none 0 0, .slice none 0 0, .int .i64 0, .int .i8 0, .int .i64 0, .int .i64 0, .int .i64 0, .int .i64 0, .slice none 0 0, .slice none 0 0, .int .i64 0, .int .i64 0, .int .i64 0, .int .i64 0, .int .i64 0, .int .i64 0, .int .i64 0] (stX sta0 sad0) 31 infoSta rfl (stX_size ..) (stX_one ..)
      have bb := b5.trans (b6.mono b5.size)
      have KS6 := Lib.hid k6
      have KW6 := Lib.hid (KW4.out.below bb KW4.out.lt)
      have KT6 := Lib.hid (KT4.out.below bb KT4.out.lt)
      have KY6 := Lib.hid (KY4.out.below bb KY4.out.lt)
      have B6 := Lib.hid (B4.out.trans (bb.mono B4.out.size))
      have LO := Lib.hid (show w.heap.size ≤ w1.heap.size ∧ w1.heap.size < wr.heap.size ∧ wr.heap.size + 1 < w5.heap.size ∧ w5.heap.size < W6.heap.size by
        have h1 := B1.out.size
        have h2 := NW.out
        have h3 := S4.out
        have h4 := b5.size
        omega)
      clear k6 b5 b6 s6 bb
      go_wp2_with fail
      clear st6
      obtain ⟨bT, hbT⟩ : ∃ b, wr.heap.size = b := ⟨_, rfl⟩
      obtain ⟨bS, hbS⟩ : ∃ b, w5.heap.size = b := ⟨_, rfl⟩
      obtain ⟨bW, hbW⟩ : ∃ b, w1.heap.size = b := ⟨_, rfl⟩
      obtain ⟨lo, hlo⟩ : ∃ b, W6.heap.size = b := ⟨_, rfl⟩
      rw [hbT, hbS, hbW, hlo] at LO
      rw [hbT] at KT6 KY6
      rw [hbW] at KW6
      rw [hbS] at KS6
      have HLO := Lib.hid hlo
      simp only [hbT, hbS, hbW]
      clear hbT hbS hbW hlo
      go_loopg [9] l.length (fun mm y wq => ∃ (k : Nat) (s : Sta) (a : Sad) (want wait : Nat → Int) (yes : Nat → Bool), k ≤ l.length ∧ y = .int .i64 k ∧ mm = l.length - k ∧ OfI s want wait yes ∧ Blk wq bS 31 (stX s a) ∧ Blk wq bW 29 (arrI 6 want) ∧ Blk wq bT 46 (arrI 18 wait) ∧ Blk wq (bT + 1) 47 (arrB 3 yes) ∧ StL wq lo s a ∧ Below w.heap.size w wq ∧ lo ≤ wq.heap.size)
      case atStart => exact ⟨0, sta0, sad0, _, _, _, Nat.zero_le _, rfl, rfl, OI0.out, KS6.out, KW6.out, KT6.out, KY6.out, fun j hj => ⟨co0_R _ _, fun h => absurd h (Nat.lt_irrefl 0), fun h => absurd h (Nat.lt_irrefl 0)⟩, B6.out, Nat.le_of_eq HLO.out.symm⟩
      case round =>
        obtain ⟨k, s, a, want, wait, yes, hk, rfl, hmm, hof, hks, hkw, hkt, hky, hli, hbw, hsz⟩ := hrel
        have HMM := Lib.hid hmm
        have OF := Lib.hid hof
        have KS := Lib.hid hks
        have KW := Lib.hid hkw
        have KT := Lib.hid hkt
        have KY := Lib.hid hky
        have LI := Lib.hid hli
        have BR := Lib.hid hbw
        have SZ := Lib.hid hsz
        clear hmm hof hks hkw hkt hky hli hbw hsz
        by_cases hlt : k < l.length
        · have dlt : decide ((k : Int) < ((l.length : Nat) : Int)) = true := decide_eq_true (by omega)
          have j1 : (0 : Int) ≤ (k : Int) := by omega
          have j2 : (k : Int) < ((l.length : Nat) : Int) := by omega
          have hln := HN.out.1
          obtain ⟨y, hy⟩ : ∃ y, l[k]? = some y := ⟨_, List.getElem?_eq_getElem hlt⟩
          have hym := List.mem_of_getElem? hy
          obtain ⟨b1, o1, rfl, hb1, hc1⟩ := (HR.out.below BR.out).plainE (by omega)
          have lk := hc1 k y hy
          obtain ⟨m, hmy⟩ : ∃ m, y.x = m := ⟨_, rfl⟩
          rw [hmy] at lk
          obtain ⟨W7, st7, k7, b7, s7⟩ := bk_fresh (P := Tryd.prog) wr 35 #[.int .i8 0, .int .i64 0, .int .i64 0, .int .i64 0, .int .i64 0, .int .i64 0, .bool false, .int .i64 0, .int .i8 0, .int .i64 0, .int .i64 0, .int .i64 0, .int .i64 0, .slice none 0 0, .slice none 0 0, .int .i64 0, .int .i64 0] (mtX m y.A y.D y.c y.e) 17 infoMt rfl (mtX_size ..) (mtX_one ..)
          have hb7 := BR.out.trans (b7.mono BR.out.size)
          have CO := Lib.hid (show CoR w w.heap.size m.c y.A y.D by rw [← hmy]; exact ML.out y hym)
          have CM := Lib.hid (show -128 ≤ m.c.st ∧ m.c.st ≤ 127 by rw [← hmy]; exact (HM.out y hym).2.2)
          have B7 := Lib.hid hb7
          have KX := Lib.hid k7
          have KS7 := Lib.hid (KS.out.below b7 KS.out.lt)
          have KW7 := Lib.hid (KW.out.below b7 KW.out.lt)
          have KT7 := Lib.hid (KT.out.below b7 KT.out.lt)
          have KY7 := Lib.hid (KY.out.below b7 KY.out.lt)
          have LI7 := Lib.hid (LI.out.below b7)
          have v0 := mt_cell k7 (j := 0) rfl
          have SZ7 := Lib.hid (show lo ≤ W7.heap.size ∧ wr.heap.size < W7.heap.size ∧ lo ≤ wr.heap.size by have := SZ.out; omega)
          obtain ⟨bx, hbx⟩ : ∃ b, wr.heap.size = b := ⟨_, rfl⟩
          rw [hbx] at KX SZ7 v0 st7
          clear k7 b7 s7 hb7 hc1 hb1 hy hym hmy
          by_cases h6 : m.kd = 6
          · have d6 : (m.kd == 6) = true := by rw [h6]; rfl
            clear h6
            have WK := Lib.hid (wakes20 W7 (HG.out.up B7.out))
            go_wp2_with fail
            refine WK.out.mono ?_
            rintro e w99 ⟨rfl, b99⟩
            have B99 := Lib.hid (B7.out.trans (b99.mono B7.out.size))
            clear b99
            go_wp2_with fail
            go_ret
            exact ⟨rfl, B99.out⟩
          · have d6 : (m.kd == 6) = false := by simp [h6]
            have H6 := Lib.hid h6
            have ls := st_load KS7.out
            have lm := mt_load (P := Tryd.prog) KX.out
            have NX := Lib.hid (mNext_any s a m y.A y.D y.c y.e W7.heap.size W7 (fun j hj => (LI7.out j hj).1) (CO.out.up B7.out) (Nat.le_refl _) (HG.out.up B7.out))
            obtain ⟨n, hn⟩ : ∃ n, nextE s m = n := ⟨_, rfl⟩
            rw [hn] at NX
            clear h6
            go_wp2_with fail
            refine NX.out.mono ?_
            rintro e w8 ⟨a8, rfl, r8, b8, n8⟩
            obtain ⟨W9, st9, k9, b9, s9⟩ := bk_fresh (P := Tryd.prog) w8 31 #[.int .i64 0, .int .i8 0, .int .i64 0, .int .i64 0, .int .i64 0, .int .i64 0, .slice none 0 0, .slice none 0 0, .int .i64 0, .int .i8 0, .int .i64 0, .int .i64 0, .int .i64 0, .int .i64 0, .slice none 0 0, .slice none 0 0, .int .i64 0, .int .i8 0, .int .i64 0, .int .i64 0, .int .i64 0, .int .i64 0, .slice none 0 0, .slice none 0 0, .int .i64 0, .int .i64 0, .int .i64 0, .int .i64 0, .int .i64 0, .int .i64 0, .int .i64 0] (stX (nextS s m) a8) 31 infoSta rfl (stX_size ..) (stX_one ..)
            have bb := b8.trans (b9.mono b8.size)
            have B9 := Lib.hid (B7.out.trans (bb.mono B7.out.size))
            have KX9 := Lib.hid (KX.out.below bb KX.out.lt)
            have KS9 := Lib.hid (KS7.out.below bb KS7.out.lt)
            have KW9 := Lib.hid (KW7.out.below bb KW7.out.lt)
            have KT9 := Lib.hid (KT7.out.below bb KT7.out.lt)
            have KY9 := Lib.hid (KY7.out.below bb KY7.out.lt)
            have LI9 := Lib.hid (LI7.out.below bb)
            have KU9 := Lib.hid k9
            have LU9 := Lib.hid (show StL W9 lo (nextS s m) a8 from fun j hj => ⟨(r8 j hj).up b9, (n8 j hj).1.mono SZ7.out.1, (n8 j hj).2.mono SZ7.out.1⟩)
            have SZ9 := Lib.hid (show lo ≤ W9.heap.size by have := SZ7.out; have := bb.size; omega)
            clear k9 b8 b9 s9 bb r8 n8 ls lm v0 lk
            by_cases hz : n = 0
            · subst hz
              have HNE := Lib.hid hn
              have MM := Lib.hid (rMayM_all m y.A y.D y.c y.e w.heap.size W9 (CO.out.below B9.out) B9.out.size CM.out.1 CM.out.2)
              rw [(next_may hn).2] at MM
              have lm := mt_load (P := Tryd.prog) KX9.out
              clear hn
              go_wp2_with fail
              refine MM.out.mono ?_
              rintro e w10 ⟨rfl, b10⟩
              have lu := st_load (KU9.out.below b10 KU9.out.lt)
              obtain ⟨W11, st11, k11, fb11, fh11, fs11⟩ := bk_store (P := Tryd.prog) (ty := 31) (cs := stX (nextS s m) a8) 31 (KS9.out.below b10 KS9.out.lt) infoSta (stX_size ..) (stX_size ..) (stX_one ..)
              have TW : Two bS bS w10 W11 := Two.fst fh11 fs11
              have KS11 := Lib.hid k11
              have KX11 := Lib.hid ((KX9.out.below b10 KX9.out.lt).two TW (by have := LO.out; have := SZ7.out; omega) (by have := LO.out; have := SZ7.out; omega))
              have KW11 := Lib.hid ((KW9.out.below b10 KW9.out.lt).two TW (by have := LO.out; omega) (by have := LO.out; omega))
              have KT11 := Lib.hid ((KT9.out.below b10 KT9.out.lt).two TW (by have := LO.out; omega) (by have := LO.out; omega))
              have KY11 := Lib.hid ((KY9.out.below b10 KY9.out.lt).two TW (by have := LO.out; omega) (by have := LO.out; omega))
              have LI11 := Lib.hid ((LU9.out.below b10).two TW (by have := LO.out; omega) (by have := LO.out; omega))
              have B11 := Lib.hid (fb11 w.heap.size w (by have := LO.out; omega) (B9.out.trans (b10.mono B9.out.size)))
              have SZ11 := Lib.hid (show lo ≤ W11.heap.size by have := SZ9.out; have := b10.size; omega)
              have v0 := mt_cell KX11.out (j := 0) rfl
              clear k11 fb11 fh11 fs11 TW b10 lm st9 st7
              by_cases h5 : m.kd = 5
              · skip
                have cc5 : (m.kd == 5) = true := by rw [h5]; rfl
                have cc2 : (m.kd == 2) = false := by rw [h5]; rfl
                have cc3 : (m.kd == 3) = false := by rw [h5]; rfl
                have cc4 : (m.kd == 4) = false := by rw [h5]; rfl
                have hpb := (pendB_iff m.p).1 (fit25 (next_may HNE.out).2 (by omega))
                obtain ⟨gn, hgn⟩ : ∃ gn : Nat, m.p.1 = (gn : Int) := ⟨m.p.1.toNat, by omega⟩
                obtain ⟨qn, hqn⟩ : ∃ qn : Nat, m.p.2.1 = (qn : Int) := ⟨m.p.2.1.toNat, by omega⟩
                have hix : idxP m.p = gn * 3 + qn := by unfold idxP; rw [hgn, hqn]; rfl
                have g1 : gn < 2 := by omega
                have q1 : qn < 3 := by omega
                have g2 : (0 : Int) ≤ (gn : Int) := by omega
                have g3 : (gn : Int) < 2 := by omega
                have q2 : (0 : Int) ≤ (qn : Int) := by omega
                have q3 : (qn : Int) < 3 := by omega
                have z0 : W11.drew.cell? ⟨bx, 3, none⟩ = some (.int .i64 (gn : Int)) := by rw [← hgn]; exact mt_cell KX11.out.drew (j := 3) rfl
                have z1 : W11.drew.cell? ⟨bx, 4, none⟩ = some (.int .i64 (qn : Int)) := by rw [← hqn]; exact mt_cell KX11.out.drew (j := 4) rfl
                have z2 := mt_cell KX11.out.drew (j := 5) rfl
                obtain ⟨W12, st12, k12, fb12, fh12, fs12⟩ := arI_put KW11.out.drew (gn * 3 + qn) (by omega) m.p.2.2
                have TW : Two bW bW W11 W12 := (Two.drew _ _ _).trans (Two.fst fh12 fs12)
                have OF12 := Lib.hid (ofs_5 OF.out HNE.out h5)
                rw [hix] at OF12
                have KW12 := Lib.hid k12
                have KS12 := Lib.hid (KS11.out.two TW (by have := LO.out; omega) (by have := LO.out; omega))
                have KT12 := Lib.hid (KT11.out.two TW (by have := LO.out; omega) (by have := LO.out; omega))
                have KY12 := Lib.hid (KY11.out.two TW (by have := LO.out; omega) (by have := LO.out; omega))
                have LI12 := Lib.hid (LI11.out.two TW (by have := LO.out; omega) (by have := LO.out; omega))
                have B12 := Lib.hid (fb12 w.heap.size w (by have := LO.out; omega) B11.out.drew)
                have SZ12 := Lib.hid (show lo ≤ W12.heap.size by rw [TW.size]; exact SZ11.out)
                clear hpb hgn hqn hix k12 fb12 fh12 fs12 TW h5
                go_wp2_with fail
                refine wp_region_qtail 11 (by kernel_rfl) (by kernel_rfl) ?_
                simp only [List.take_succ_cons, List.take_zero, List.drop_succ_cons, List.drop_zero]
                repeat (go_big_quiet_step (fail))
                refine wpQuiet_nil ?_
                go_wp2_with fail
                go_roundg (l.length - k - 1)
                case measure => have := HMM.out; omega
                case rel => exact ⟨k + 1, nextS s m, a8, _, _, _, by omega, by go_num, by omega, OF12.out, KS12.out, KW12.out, KT12.out, KY12.out, LI12.out, B12.out, SZ12.out⟩
              by_cases h2 : m.kd = 2
              · skip
                have cc5 : (m.kd == 5) = false := by rw [h2]; rfl
                have cc2 : (m.kd == 2) = true := by rw [h2]; rfl
                have cc3 : (m.kd == 3) = false := by rw [h2]; rfl
                have cc4 : (m.kd == 4) = false := by rw [h2]; rfl
                have hpb := (pendB_iff m.p).1 (fit25 (next_may HNE.out).2 (by omega))
                obtain ⟨gn, hgn⟩ : ∃ gn : Nat, m.p.1 = (gn : Int) := ⟨m.p.1.toNat, by omega⟩
                obtain ⟨qn, hqn⟩ : ∃ qn : Nat, m.p.2.1 = (qn : Int) := ⟨m.p.2.1.toNat, by omega⟩
                have hix : idxP m.p = gn * 3 + qn := by unfold idxP; rw [hgn, hqn]; rfl
                have g1 : gn < 2 := by omega
                have q1 : qn < 3 := by omega
                have g2 : (0 : Int) ≤ (gn : Int) := by omega
                have g3 : (gn : Int) < 2 := by omega
                have q2 : (0 : Int) ≤ (qn : Int) := by omega
                have q3 : (qn : Int) < 3 := by omega
                have z0 : W11.drew.cell? ⟨bx, 3, none⟩ = some (.int .i64 (gn : Int)) := by rw [← hgn]; exact mt_cell KX11.out.drew (j := 3) rfl
                have z1 : W11.drew.cell? ⟨bx, 4, none⟩ = some (.int .i64 (qn : Int)) := by rw [← hqn]; exact mt_cell KX11.out.drew (j := 4) rfl
                have z2 := mt_cell KX11.out.drew (j := 5) rfl
                have htm := (mayM_fit (next_may HNE.out).2)
                obtain ⟨tn, htn⟩ : ∃ tn : Nat, m.tid = (tn : Int) := ⟨m.tid.toNat, by omega⟩
                have htt : m.tid.toNat = tn := by omega
                have t1 : tn < 3 := by omega
                have t2 : (0 : Int) ≤ (tn : Int) := by omega
                have t3 : (tn : Int) < 3 := by omega
                have z9 : W11.drew.cell? ⟨bx, 1, none⟩ = some (.int .i64 (tn : Int)) := by rw [← htn]; exact mt_cell KX11.out.drew (j := 1) rfl
                have ew : IntKind.i64.wrap (m.p.2.2 + 1) = m.p.2.2 + 1 := IntWalk.i64_in _ (by omega)
                obtain ⟨W12, st12, k12, fb12, fh12, fs12⟩ := arI_put KT11.out.drew (tn * 6 + gn * 3 + qn) (by omega) (m.p.2.2 + 1)
                have TW : Two bT bT W11 W12 := (Two.drew _ _ _).trans (Two.fst fh12 fs12)
                have OF12 := Lib.hid (ofs_2 OF.out HNE.out h2)
                rw [hix, htt, ← Nat.add_assoc] at OF12
                have KT12 := Lib.hid k12
                have KS12 := Lib.hid (KS11.out.two TW (by have := LO.out; omega) (by have := LO.out; omega))
                have KW12 := Lib.hid (KW11.out.two TW (by have := LO.out; omega) (by have := LO.out; omega))
                have KY12 := Lib.hid (KY11.out.two TW (by have := LO.out; omega) (by have := LO.out; omega))
                have LI12 := Lib.hid (LI11.out.two TW (by have := LO.out; omega) (by have := LO.out; omega))
                have B12 := Lib.hid (fb12 w.heap.size w (by have := LO.out; omega) B11.out.drew)
                have SZ12 := Lib.hid (show lo ≤ W12.heap.size by rw [TW.size]; exact SZ11.out)
                clear hpb hgn hqn hix htm htn htt k12 fb12 fh12 fs12 TW h2 h5
                go_wp2_with fail
                refine wp_region_qtail 15 (by kernel_rfl) (by kernel_rfl) ?_
                simp only [List.take_succ_cons, List.take_zero, List.drop_succ_cons, List.drop_zero]
                repeat (go_big_quiet_step (fail))
                refine wpQuiet_nil ?_
                go_wp2_with fail
                go_roundg (l.length - k - 1)
                case measure => have := HMM.out; omega
                case rel => exact ⟨k + 1, nextS s m, a8, _, _, _, by omega, by go_num, by omega, OF12.out, KS12.out, KW12.out, KT12.out, KY12.out, LI12.out, B12.out, SZ12.out⟩
              by_cases h3 : m.kd = 3
              · skip
                have cc5 : (m.kd == 5) = false := by rw [h3]; rfl
                have cc2 : (m.kd == 2) = false := by rw [h3]; rfl
                have cc3 : (m.kd == 3) = true := by rw [h3]; rfl
                have cc4 : (m.kd == 4) = false := by rw [h3]; rfl
                have htm := (mayM_fit (next_may HNE.out).2)
                obtain ⟨tn, htn⟩ : ∃ tn : Nat, m.tid = (tn : Int) := ⟨m.tid.toNat, by omega⟩
                have htt : m.tid.toNat = tn := by omega
                have t1 : tn < 3 := by omega
                have t2 : (0 : Int) ≤ (tn : Int) := by omega
                have t3 : (tn : Int) < 3 := by omega
                have z9 : W11.cell? ⟨bx, 1, none⟩ = some (.int .i64 (tn : Int)) := by rw [← htn]; exact mt_cell KX11.out (j := 1) rfl
                have z8 := mt_cell KX11.out (j := 6) rfl
                obtain ⟨W12, st12, k12, fb12, fh12, fs12⟩ := arB_put KY11.out tn t1 m.yes
                have TW : Two (bT + 1) (bT + 1) W11 W12 := Two.fst fh12 fs12
                have OF12 := Lib.hid (ofs_3 OF.out HNE.out h3)
                rw [htt] at OF12
                have KY12 := Lib.hid k12
                have KS12 := Lib.hid (KS11.out.two TW (by have := LO.out; omega) (by have := LO.out; omega))
                have KW12 := Lib.hid (KW11.out.two TW (by have := LO.out; omega) (by have := LO.out; omega))
                have KT12 := Lib.hid (KT11.out.two TW (by have := LO.out; omega) (by have := LO.out; omega))
                have LI12 := Lib.hid (LI11.out.two TW (by have := LO.out; omega) (by have := LO.out; omega))
                have B12 := Lib.hid (fb12 w.heap.size w (by have := LO.out; omega) B11.out)
                have SZ12 := Lib.hid (show lo ≤ W12.heap.size by rw [TW.size]; exact SZ11.out)
                clear htm htn htt k12 fb12 fh12 fs12 TW h2 h3 h5
                go_wp2_with fail
                go_roundg (l.length - k - 1)
                case measure => have := HMM.out; omega
                case rel => exact ⟨k + 1, nextS s m, a8, _, _, _, by omega, by go_num, by omega, OF12.out, KS12.out, KW12.out, KT12.out, KY12.out, LI12.out, B12.out, SZ12.out⟩
              by_cases h4 : m.kd = 4
              · skip
                have cc5 : (m.kd == 5) = false := by rw [h4]; rfl
                have cc2 : (m.kd == 2) = false := by rw [h4]; rfl
                have cc3 : (m.kd == 3) = false := by rw [h4]; rfl
                have cc4 : (m.kd == 4) = true := by rw [h4]; rfl
                have htm := (mayM_fit (next_may HNE.out).2)
                obtain ⟨tn, htn⟩ : ∃ tn : Nat, m.tid = (tn : Int) := ⟨m.tid.toNat, by omega⟩
                have htt : m.tid.toNat = tn := by omega
                have t1 : tn < 3 := by omega
                have t2 : (0 : Int) ≤ (tn : Int) := by omega
                have t3 : (tn : Int) < 3 := by omega
                have HTN := Lib.hid (And.intro htn htt)
                have H4 := Lib.hid h4
                clear htm htn htt h2 h3 h5 h4
                go_wp2_with fail
                clear v0 st11
                go_loopg [13] 2 (fun mm y wq => ∃ (g : Nat), g ≤ 2 ∧ y = .int .i64 g ∧ mm = 2 - g ∧ Two bW bT W11 wq ∧ Blk wq bW 29 (arrI 6 (cW want wait yes tn (g * 3))) ∧ Blk wq bT 46 (arrI 18 (cT wait tn (g * 3))) ∧ Below w.heap.size w wq)
                case atStart => exact ⟨0, by omega, rfl, rfl, Two.refl _ _ _, by rw [show cW want wait yes tn (0 * 3) = want from funext fun j => if_neg (fun x => by have := x.1; omega)]; exact KW11.out, by rw [show cT wait tn (0 * 3) = wait from funext fun j => if_neg (by omega)]; exact KT11.out, B11.out⟩
                case round =>
                  obtain ⟨g, hg, rfl, hmg, htw, hkw, hkt, hbg⟩ := hrel
                  have HMG := Lib.hid hmg
                  have TG := Lib.hid htw
                  have KWg := Lib.hid hkw
                  have KTg := Lib.hid hkt
                  have BG := Lib.hid hbg
                  clear hmg htw hkw hkt hbg
                  by_cases hlg : g < 2
                  · have dg : decide ((g : Int) < 2) = true := decide_eq_true (by omega)
                    have g1 : (0 : Int) ≤ (g : Int) := by omega
                    have g2 : (g : Int) < 2 := by omega
                    go_wp2_with fail
                    go_loopg [14] 3 (fun mm y wq => ∃ (q : Nat), q ≤ 3 ∧ y = .int .i64 q ∧ mm = 3 - q ∧ Two bW bT W11 wq ∧ Blk wq bW 29 (arrI 6 (cW want wait yes tn (g * 3 + q))) ∧ Blk wq bT 46 (arrI 18 (cT wait tn (g * 3 + q))) ∧ Below w.heap.size w wq)
                    case atStart => exact ⟨0, by omega, rfl, rfl, TG.out, KWg.out, KTg.out, BG.out⟩
                    case round =>
                      obtain ⟨q, hq, rfl, hmq, htw, hkw, hkt, hbq⟩ := hrel
                      have HMQ := Lib.hid hmq
                      have TQ := Lib.hid htw
                      have KWq := Lib.hid hkw
                      have KTq := Lib.hid hkt
                      have BQ := Lib.hid hbq
                      clear hmq htw hkw hkt hbq
                      by_cases hlq : q < 3
                      · have dq : decide ((q : Int) < 3) = true := decide_eq_true (by omega)
                        have q1 : (0 : Int) ≤ (q : Int) := by omega
                        have q2 : (q : Int) < 3 := by omega
                        have KXq := Lib.hid (KX11.out.two TQ.out (by have := LO.out; have := SZ7.out; omega) (by have := LO.out; have := SZ7.out; omega))
                        have KYq := Lib.hid (KY11.out.two TQ.out (by have := LO.out; omega) (by omega))
                        have xt : wr.cell? ⟨bx, 1, none⟩ = some (.int .i64 (tn : Int)) := by rw [← HTN.out.1]; exact mt_cell KXq.out (j := 1) rfl
                        have xy := arB_cell KYq.out t1
                        have xw := arI_cell KTq.out (i := tn * 6 + (g * 3 + q)) (by omega)
                        rw [cT_at] at xw
                        have hwb : 0 ≤ wait (tn * 6 + (g * 3 + q)) ∧ wait (tn * 6 + (g * 3 + q)) ≤ 1048577 := by
                          rw [OF.out.wait tn t1 (g * 3 + q) (by omega)]
                          have := (tid_may HNE.out).2
                          rw [HTN.out.2] at this
                          exact waitL_bd _ _ (co_pends this).1
                        obtain ⟨v, hv⟩ : ∃ v, wait (tn * 6 + (g * 3 + q)) = v := ⟨_, rfl⟩
                        rw [hv] at xw hwb
                        rw [← Nat.add_assoc] at xw
                        have HV := Lib.hid hv
                        cases hyes : yes tn
                        · rw [hyes] at xy
                          obtain ⟨W13, st13, k13, fb13, fh13, fs13⟩ := arI_put KTq.out (tn * 6 + (g * 3 + q)) (by omega) 0
                          rw [cT_step] at k13
                          rw [← Nat.add_assoc] at st13
                          have K13 := Lib.hid k13
                          have T13 := Lib.hid (TQ.out.trans (Two.snd (b1 := bW) fh13 fs13))
                          have KW13 := Lib.hid (show Blk W13 bW 29 (arrI 6 (cW want wait yes tn (g * 3 + (q + 1)))) by
                            rw [← Nat.add_assoc, ← cW_same want wait yes tn (g * 3 + q) (fun x => by rw [hyes] at x; cases x.1)]
                            exact KWq.out.two (Two.fst (b2 := bT) fh13 fs13) (by have := LO.out; omega) (by have := LO.out; omega))
                          have B13 := Lib.hid (fb13 w.heap.size w (by have := LO.out; omega) BQ.out)
                          clear k13 fb13 fh13 fs13 hyes hv hwb
                          go_wp2_with fail
                          go_roundg (3 - q - 1)
                          case measure => have := HMQ.out; omega
                          case rel => exact ⟨q + 1, by omega, by go_num, by omega, T13.out, KW13.out, K13.out, B13.out⟩
                        · rw [hyes] at xy
                          by_cases hp : 0 < v
                          · have dv : decide (0 < v) = true := decide_eq_true hp
                            have ev : IntKind.i64.wrap (v - 1) = v - 1 := IntWalk.i64_in _ (by omega)
                            obtain ⟨W12, st12, k12, fb12, fh12, fs12⟩ := arI_put KWq.out.drew (g * 3 + q) (by omega) (v - 1)
                            have TW : Two bW bT wr W12 := (Two.drew _ _ _).trans (Two.fst fh12 fs12)
                            have KT12 := (KTq.out.two (b1 := bW) (b2 := bW) ((Two.drew _ _ _).trans (Two.fst fh12 fs12)) (by have := LO.out; omega) (by have := LO.out; omega))
                            obtain ⟨W13, st13, k13, fb13, fh13, fs13⟩ := arI_put KT12 (tn * 6 + (g * 3 + q)) (by omega) 0
                            rw [cT_step] at k13
                            rw [← Nat.add_assoc] at st13
                            have K13 := Lib.hid k13
                            have T13 := Lib.hid (TQ.out.trans (TW.trans (Two.snd (b1 := bW) fh13 fs13)))
                            have KW13 := Lib.hid (show Blk W13 bW 29 (arrI 6 (cW want wait yes tn (g * 3 + (q + 1)))) by
                              rw [← Nat.add_assoc, ← cW_step want wait yes tn (g * 3 + q) ⟨hyes, by rw [hv]; exact hp⟩, hv]
                              exact Blk.two k12 (Two.fst (b2 := bT) fh13 fs13) (by have := LO.out; omega) (by have := LO.out; omega))
                            have B13 := Lib.hid (fb13 w.heap.size w (by have := LO.out; omega) (fb12 w.heap.size w (by have := LO.out; omega) BQ.out.drew))
                            have xtd : wr.drew.cell? ⟨bx, 1, none⟩ = some (.int .i64 (tn : Int)) := xt
                            have xwd : wr.drew.cell? ⟨bT, tn * 6 + g * 3 + q, none⟩ = some (.int .i64 v) := xw
                            have x12 : W12.cell? ⟨bx, 1, none⟩ = some (.int .i64 (tn : Int)) := by rw [← HTN.out.1]; exact mt_cell (KXq.out.two TW (by have := LO.out; have := SZ7.out; omega) (by have := LO.out; have := SZ7.out; omega)) (j := 1) rfl
                            clear k12 k13 fb12 fh12 fs12 fb13 fh13 fs13 hyes hv hwb hp KT12 TW
                            go_wp2_with fail
                            refine wp_region_qtail 13 (by kernel_rfl) (by kernel_rfl) ?_
                            simp only [List.take_succ_cons, List.take_zero, List.drop_succ_cons, List.drop_zero]
                            repeat (go_big_quiet_step (fail))
                            refine wpQuiet_nil ?_
                            go_wp2_with fail
                            go_roundg (3 - q - 1)
                            case measure => have := HMQ.out; omega
                            case rel => exact ⟨q + 1, by omega, by go_num, by omega, T13.out, KW13.out, K13.out, B13.out⟩
                          · have dv : decide (0 < v) = false := decide_eq_false hp
                            obtain ⟨W13, st13, k13, fb13, fh13, fs13⟩ := arI_put KTq.out (tn * 6 + (g * 3 + q)) (by omega) 0
                            rw [cT_step] at k13
                            rw [← Nat.add_assoc] at st13
                            have K13 := Lib.hid k13
                            have T13 := Lib.hid (TQ.out.trans (Two.snd (b1 := bW) fh13 fs13))
                            have KW13 := Lib.hid (show Blk W13 bW 29 (arrI 6 (cW want wait yes tn (g * 3 + (q + 1)))) by
                              rw [← Nat.add_assoc, ← cW_same want wait yes tn (g * 3 + q) (fun x => by rw [hv] at x; exact hp x.2)]
                              exact KWq.out.two (Two.fst (b2 := bT) fh13 fs13) (by have := LO.out; omega) (by have := LO.out; omega))
                            have B13 := Lib.hid (fb13 w.heap.size w (by have := LO.out; omega) BQ.out)
                            clear k13 fb13 fh13 fs13 hyes hv hwb hp
                            go_wp2_with fail
                            go_roundg (3 - q - 1)
                            case measure => have := HMQ.out; omega
                            case rel => exact ⟨q + 1, by omega, by go_num, by omega, T13.out, KW13.out, K13.out, B13.out⟩
                      · obtain rfl : q = 3 := by omega
                        have dq : decide (((3 : Nat) : Int) < 3) = false := by decide
                        go_wp2_with fail
                        go_roundg (2 - g - 1)
                        case measure => have := HMG.out; omega
                        case rel => exact ⟨g + 1, by omega, by go_num, by omega, TQ.out, by rw [show (g + 1) * 3 = g * 3 + 3 by omega]; exact KWq.out, by rw [show (g + 1) * 3 = g * 3 + 3 by omega]; exact KTq.out, BQ.out⟩
                  · obtain rfl : g = 2 := by omega
                    have dg : decide (((2 : Nat) : Int) < 2) = false := by decide
                    have OF12 := Lib.hid (show OfI (nextS s m) (cW want wait yes tn (2 * 3)) (cT wait tn (2 * 3)) yes from ofs_4 OF.out HNE.out H4.out (fun g hg => by
                        rw [HTN.out.2]
                        show (if g < 2 * 3 ∧ yes tn = true ∧ 0 < wait (tn * 6 + g) then wait (tn * 6 + g) - 1 else want g) = _
                        by_cases h : yes tn = true ∧ 0 < wait (tn * 6 + g)
                        · rw [if_pos ⟨hg, h⟩, if_pos h]
                        · rw [if_neg (fun x => h x.2), if_neg h]) (fun u hu g hg => by
                        rw [HTN.out.2]
                        show (if tn * 6 ≤ u * 6 + g ∧ u * 6 + g < tn * 6 + 2 * 3 then 0 else wait (u * 6 + g)) = _
                        by_cases e : u = tn
                        · rw [if_pos (by omega), if_pos e]
                        · rw [if_neg (by omega), if_neg e]))
                    have KS12 := Lib.hid (KS11.out.two TG.out (by have := LO.out; omega) (by have := LO.out; omega))
                    have KY12 := Lib.hid (KY11.out.two TG.out (by have := LO.out; omega) (by omega))
                    have LI12 := Lib.hid (LI11.out.two TG.out (by have := LO.out; omega) (by have := LO.out; omega))
                    have SZ12 := Lib.hid (show lo ≤ wr.heap.size by rw [TG.out.size]; exact SZ11.out)
                    go_wp2_with fail
                    go_roundg (l.length - k - 1)
                    case measure => have := HMM.out; omega
                    case rel => exact ⟨k + 1, nextS s m, a8, _, _, _, by omega, by go_num, by omega, OF12.out, KS12.out, KWg.out, KTg.out, KY12.out, LI12.out, BG.out, SZ12.out⟩
              have cc5 : (m.kd == 5) = false := by simp [h5]
              have cc2 : (m.kd == 2) = false := by simp [h2]
              have cc3 : (m.kd == 3) = false := by simp [h3]
              have cc4 : (m.kd == 4) = false := by simp [h4]
              have OF12 := Lib.hid (ofs_other OF.out HNE.out H6.out h2 h3 h4 h5)
              clear h2 h3 h4 h5
              go_wp2_with fail
              go_roundg (l.length - k - 1)
              case measure => have := HMM.out; omega
              case rel => exact ⟨k + 1, nextS s m, a8, _, _, _, by omega, by go_num, by omega, OF12.out, KS11.out, KW11.out, KT11.out, KY11.out, LI11.out, B11.out, SZ11.out⟩
            · have dn : (n == 0) = false := eqb_false hz
              have dn2 : (n != 0) = true := by simp [hz]
              clear hz hn
              go_wp2_with fail
              go_roundg (gk - 1)
              case measure => have := HMM.out; omega
              case rel => exact ⟨k + 1, s, a, want, wait, yes, by omega, by go_num, by have := HMM.out; omega, OF.out, KS9.out, KW9.out, KT9.out, KY9.out, LI9.out, B9.out, SZ9.out⟩
        · have hkn : k = l.length := by omega
          have dlt : decide ((k : Int) < ((l.length : Nat) : Int)) = false := decide_eq_false (by omega)
          have x2 := st_grs KS.out
          have y2 : (loadCells ⟨bW, 0, none⟩ 6).run Tryd.prog wr = .ok (grX ⟨0, fun _ => Co0, want⟩) wr := bk_load 6 KW.out rfl
          have eg := fun W => eqGr s ⟨0, fun _ => Co0, want⟩ W
          rw [grs_want OF.out.want] at eg
          have WK := Lib.hid (wakes20 wr (HG.out.up BR.out))
          clear hkn
          go_wp2_with fail
          refine WK.out.mono ?_
          rintro e w99 ⟨rfl, b99⟩
          have B99 := Lib.hid (BR.out.trans (b99.mono BR.out.size))
          clear b99 x2 y2
          go_wp2_with fail
          go_ret
          exact ⟨rfl, B99.out⟩
end
end Go.Proofs.YtbpkckahonmpkaaDoor
namespace Go.Proofs.YtbpkckahonmpkaaDoor
open Go.Joins Go.ChangeShapes Go.WideShapes Go.RowKit Go.Deep

section
variable {H : Type} {enc : TypeId × Value → H} {P : Program} {w : World} {base : Nat} {spare : Nat → Bool} {held : Bool}
theorem open_slice_fields {t e : TypeId} {fs : Array Field} {fuel : Nat} {cs : List Value} {x : DataW H × List MemPlace} (ht : P.underlying t = some (.slice e)) (he : P.underlying e = some (.struct fs))
    (hone : oneCellFields P fs = true) (hC : P.cellsOf e = fs.size) (h : DataW.trod enc P w base spare held fuel t cs = some x) :
    (cs = [.slice none 0 0] ∧ x = (.nil, [])) ∨
    ∃ (a : Addr) (len cap m : Nat) (D : Nat → DataW H) (Pl : Nat → List MemPlace), cs = [.slice (some a) len cap] ∧ base ≤ a.block ∧ len ≤ cap ∧ cap ≤ maxLen ∧ m = (if spare a.block then cap else len) ∧
      x = (.slice ((List.range len).map D) ((List.range (m - len)).map fun j => D (len + j)), MemPlace.row a (m * fs.size) ++ (List.range m).flatMap Pl) ∧
      ∀ i, i < m → ∃ (ys : List (DataW H × List MemPlace)) (n : Nat), D i = .agg (ys.map (·.1)) ∧ Pl i = ys.flatMap (·.2) ∧ ys.length = fs.size ∧
        ∀ (j : Nat) (f : Field), fs[j]? = some f → ∃ (v : Value) (y : DataW H × List MemPlace), w.cell? (a.add (i * fs.size + j)) = some v ∧ ys[j]? = some y ∧ DataW.trod enc P w base spare held n f.type [v] = some y := by
  rcases open_slice ht h with h0 | ⟨a, len, cap, m, n, D, Pl, hcs, hb, hl, hm, hmm, hx, hi⟩
  · exact .inl h0
  · refine .inr ⟨a, len, cap, m, D, Pl, hcs, hb, hl, hm, hmm, by rw [hC] at hx; exact hx, fun i him => ?_⟩
    obtain ⟨cs', hc, ht'⟩ := hi i him
    rw [hC] at hc
    obtain ⟨ys, n', hn', hy, hlen, hyl, hf⟩ := DataW.trod_struct he ht'
    obtain ⟨_, hcl, hat⟩ := World.cells?_some hc
    simp only [Prod.mk.injEq] at hy
    refine ⟨ys, n', hy.1, hy.2, hyl, fun j f hj => ?_⟩
    obtain ⟨ho, hk⟩ := hone_of hone j f hj
    have hjl : j < fs.size := (Array.getElem?_eq_some_iff.1 hj).1
    have hcell := hat j hjl
    have hv : cs'[j]? = some (cs'[j]'(by omega)) := List.getElem?_eq_getElem (by omega)
    have h1 := hf j f hj
    rw [ho, hk] at h1
    have hone' : (cs'.drop j).take 1 = [cs'[j]'(by omega)] := by
      rw [List.drop_eq_getElem_cons (by omega)]
      rfl
    rw [hone'] at h1
    have hys : ys[j]? = some (ys[j]'(by omega)) := List.getElem?_eq_getElem (by omega)
    refine ⟨_, _, ?_, hys, h1.trans hys⟩
    rw [← Go.Deep.add_add, hcell, hv]
end

section
variable {H : Type} {enc : TypeId × Value → H} {W : World}
theorem cell_block {a : Addr} {k : Nat} {v : Value} (h : W.cell? (a.add k) = some v) : a.block < W.heap.size := by
  have := block_lt_of_cell h
  rwa [block_of_add] at this
theorem field_ints {fuel : Nat} {v : Value} {x : DataW H × List MemPlace} (h : DataW.trod enc Tryd.prog W 0 (fun _ => true) true fuel 23 [v] = some x) :
    ∃ (A : Option Addr) (c : Nat) (l : List Int), v = .slice A l.length c ∧ l.length ≤ c ∧ Reads W W.heap.size 1 A l.length (cellsI .i64 l) := by
  rcases open_ints Tryd.underlying23 Tryd.underlying3 (by kernel_rfl) h with ⟨hcs, _⟩ | ⟨a, len, cap, zs, hcs, _, hl, hm, hz, hx, hcell, hwz⟩
  · simp at hcs
    subst hcs
    exact ⟨none, 0, [], rfl, Nat.le_refl _, Reads.none_⟩
  · simp at hcs
    subst hcs
    simp only [if_true] at hz
    have hlen : (zs.take len).length = len := by rw [List.length_take]; omega
    refine ⟨some a, cap, zs.take len, by rw [hlen], by omega, by rw [length_cellsI]; omega, fun hn => ⟨a, rfl, cell_block (hcell 0 (by omega)), fun j u hu => ?_⟩⟩
    rw [getElem?_cellsI, Option.map_eq_some_iff] at hu
    obtain ⟨s, hs, rfl⟩ := hu
    have hj : j < len := by
      have := (List.getElem?_eq_some_iff.1 hs).1
      omega
    rw [List.getElem?_take_of_lt hj] at hs
    rw [hcell j (by omega)]
    simp [hs]
theorem cellsP_get : ∀ (l : List Pd) (j : Nat) (u : Value), (cellsP l)[j]? = some u → ∃ i k p, j = i * 3 + k ∧ k < 3 ∧ l[i]? = some p ∧ u = (if k = 0 then .int .i64 p.1 else if k = 1 then .int .i64 p.2.1 else .int .i64 p.2.2) := by
  intro l j u hu
  have hj : j < l.length * 3 := by
    have := (List.getElem?_eq_some_iff.1 hu).1
    rwa [length_cellsP] at this
  have hi : j / 3 < l.length := by omega
  obtain ⟨p, hp⟩ : ∃ p, l[j / 3]? = some p := ⟨_, List.getElem?_eq_getElem hi⟩
  obtain ⟨h0, h1, h2⟩ := cellsP_at l (j / 3) p hp
  refine ⟨j / 3, j % 3, p, by omega, by omega, hp, ?_⟩
  have hk : j % 3 = 0 ∨ j % 3 = 1 ∨ j % 3 = 2 := by omega
  rcases hk with hk | hk | hk
  · rw [show j = j / 3 * 3 by omega, h0] at hu
    rw [if_pos hk]
    exact (Option.some.inj hu).symm
  · rw [show j = j / 3 * 3 + 1 by omega, h1] at hu
    rw [if_neg (by omega), if_pos hk]
    exact (Option.some.inj hu).symm
  · rw [show j = j / 3 * 3 + 2 by omega, h2] at hu
    rw [if_neg (by omega), if_neg (by omega)]
    exact (Option.some.inj hu).symm
theorem field_pends {fuel : Nat} {v : Value} {x : DataW H × List MemPlace} (h : DataW.trod enc Tryd.prog W 0 (fun _ => true) true fuel 24 [v] = some x) :
    ∃ (A : Option Addr) (c : Nat) (l : List Pd), v = .slice A l.length c ∧ l.length ≤ c ∧ Reads W W.heap.size 3 A l.length (cellsP l) := by
  rcases open_slice_fields Tryd.underlying24 Tryd.underlying33 (by kernel_rfl) (by kernel_rfl) h with ⟨hcs, _⟩ | ⟨a, len, cap, m, D, Pl, hcs, _, hl, hm, hmm, hx, hi⟩
  · simp at hcs
    subst hcs
    exact ⟨none, 0, [], rfl, Nat.le_refl _, Reads.none_⟩
  · simp at hcs
    subst hcs
    simp only [if_true] at hmm
    subst hmm
    have hp : ∀ i, ∃ p : Pd, i < len → W.cell? (a.add (i * 3 + 0)) = some (.int .i64 p.1) ∧ W.cell? (a.add (i * 3 + 1)) = some (.int .i64 p.2.1) ∧ W.cell? (a.add (i * 3 + 2)) = some (.int .i64 p.2.2) := by
      intro i
      by_cases hlt : i < len
      · obtain ⟨ys, n, _, _, _, hf⟩ := hi i (by omega)
        obtain ⟨v0, y0, hc0, _, t0⟩ := hf 0 _ rfl
        obtain ⟨v1, y1, hc1, _, t1⟩ := hf 1 _ rfl
        obtain ⟨v2, y2, hc2, _, t2⟩ := hf 2 _ rfl
        obtain ⟨z0, e0, _, _⟩ := DataW.trod_int Tryd.underlying3 t0
        obtain ⟨z1, e1, _, _⟩ := DataW.trod_int Tryd.underlying3 t1
        obtain ⟨z2, e2, _, _⟩ := DataW.trod_int Tryd.underlying3 t2
        simp at e0 e1 e2
        subst e0; subst e1; subst e2
        exact ⟨(z0, z1, z2), fun _ => ⟨hc0, hc1, hc2⟩⟩
      · exact ⟨(0, 0, 0), fun h => absurd h hlt⟩
    refine ⟨some a, m, (List.range len).map fun i => Classical.choose (hp i), by simp, by simpa using hl, by rw [length_cellsP], fun hn => ⟨a, rfl, ?_, fun j u hu => ?_⟩⟩
    · simp at hn
      exact cell_block (Classical.choose_spec (hp 0) hn).1
    · obtain ⟨i, k, p, rfl, hk, hpi, rfl⟩ := cellsP_get _ j u hu
      rw [List.getElem?_map, Option.map_eq_some_iff] at hpi
      obtain ⟨i', hi', rfl⟩ := hpi
      have hlt : i < len := by
        have := (List.getElem?_eq_some_iff.1 hi').1
        simpa using this
      rw [List.getElem?_range hlt] at hi'
      obtain rfl : i = i' := by simpa using hi'
      obtain ⟨q0, q1, q2⟩ := Classical.choose_spec (hp i) hlt
      have hk3 : k = 0 ∨ k = 1 ∨ k = 2 := by omega
      rcases hk3 with rfl | rfl | rfl
      · exact q0
      · exact q1
      · exact q2

end
end Go.Proofs.YtbpkckahonmpkaaDoor
namespace Go.Proofs.YtbpkckahonmpkaaDoor
open Go.Joins Go.ChangeShapes Go.WideShapes Go.RowKit Go.Deep
section
variable {H : Type} {enc : TypeId × Value → H} {W : World}
set_option maxRecDepth 100000 in
theorem trod_coS {fuel : Nat} {cs : List Value} {x : DataW H × List MemPlace} (h : DataW.trod enc Tryd.prog W 0 (fun _ => true) true fuel 26 cs = some x) :
    ∃ (c : Co) (A D : Option Addr) (n m : Nat), cs = coL c A D n m ∧ Reads W W.heap.size 1 A c.ps.length (cellsI .i64 c.ps) ∧ Reads W W.heap.size 3 D c.qs.length (cellsP c.qs) ∧ -128 ≤ c.st ∧ c.st ≤ 127 := by
  obtain ⟨xs, n, _, _, hl, hlen, hg⟩ := DataW.trod_struct Tryd.underlying26 h
  have hC : Tryd.prog.cellsOf 26 = 8 := by kernel_rfl
  have ki : Tryd.prog.cellsOf 3 = 1 := by kernel_rfl
  have kb : Tryd.prog.cellsOf 22 = 1 := by kernel_rfl
  have kl : Tryd.prog.cellsOf 23 = 1 := by kernel_rfl
  have kp : Tryd.prog.cellsOf 24 = 1 := by kernel_rfl
  rw [hC] at hl
  match cs, hl with
  | [c0, c1, c2, c3, c4, c5, c6, c7], _ =>
    match xs, hlen with
    | [y0, y1, y2, y3, y4, y5, y6, y7], _ =>
      have t0 := hg 0 _ rfl
      have t1 := hg 1 _ rfl
      have t2 := hg 2 _ rfl
      have t3 := hg 3 _ rfl
      have t4 := hg 4 _ rfl
      have t5 := hg 5 _ rfl
      have t6 := hg 6 _ rfl
      have t7 := hg 7 _ rfl
      clear hg
      simp [kb] at t0
      simp [ki] at t1 t2 t3 t4 t7
      simp [kl] at t5
      simp [kp] at t6
      obtain ⟨z0, e0, _, w0⟩ := DataW.trod_int Tryd.underlying22 t0
      obtain ⟨z1, e1, _, _⟩ := DataW.trod_int Tryd.underlying3 t1
      obtain ⟨z2, e2, _, _⟩ := DataW.trod_int Tryd.underlying3 t2
      obtain ⟨z3, e3, _, _⟩ := DataW.trod_int Tryd.underlying3 t3
      obtain ⟨z4, e4, _, _⟩ := DataW.trod_int Tryd.underlying3 t4
      obtain ⟨A1, c1, l1, rfl, k1, r1⟩ := field_ints t5
      obtain ⟨D1, ee1, l2, rfl, k2, r2⟩ := field_pends t6
      obtain ⟨z7, e7, _, _⟩ := DataW.trod_int Tryd.underlying3 t7
      simp at e0 e1 e2 e3 e4 e7
      subst e0; subst e1; subst e2; subst e3; subst e4; subst e7
      have hw : -128 ≤ z0 ∧ z0 ≤ 127 := by
        simp only [Lit.wf, Bool.and_eq_true, decide_eq_true_eq] at w0
        exact ⟨w0.1, w0.2⟩
      exact ⟨⟨z0, z1, z2, z3, z4, l1, l2, z7⟩, A1, D1, c1, ee1, rfl, r1, r2, hw.1, hw.2⟩
end
end Go.Proofs.YtbpkckahonmpkaaDoor
namespace Go.Proofs.YtbpkckahonmpkaaDoor
open Go.Joins Go.ChangeShapes Go.WideShapes Go.RowKit Go.Deep
section
variable {H : Type} {enc : TypeId × Value → H} {W : World}
set_option maxRecDepth 100000 in
theorem trod_pdM {fuel : Nat} {cs : List Value} {x : DataW H × List MemPlace} (h : DataW.trod enc Tryd.prog W 0 (fun _ => true) true fuel 33 cs = some x) :
    ∃ p : Pd, cs = [.int .i64 p.1, .int .i64 p.2.1, .int .i64 p.2.2] := by
  obtain ⟨xs, n, _, _, hl, hlen, hg⟩ := DataW.trod_struct Tryd.underlying33 h
  have hC : Tryd.prog.cellsOf 33 = 3 := by kernel_rfl
  have ki : Tryd.prog.cellsOf 3 = 1 := by kernel_rfl
  rw [hC] at hl
  match cs, hl with
  | [c0, c1, c2], _ =>
    match xs, hlen with
    | [y0, y1, y2], _ =>
      have t0 := hg 0 _ rfl
      have t1 := hg 1 _ rfl
      have t2 := hg 2 _ rfl
      simp [ki] at t0 t1 t2
      obtain ⟨z0, e0, _, w0⟩ := DataW.trod_int Tryd.underlying3 t0
      obtain ⟨z1, e1, _, w1⟩ := DataW.trod_int Tryd.underlying3 t1
      obtain ⟨z2, e2, _, w2⟩ := DataW.trod_int Tryd.underlying3 t2
      simp at e0 e1 e2
      subst e0; subst e1; subst e2
      exact ⟨(z0, z1, z2), rfl⟩
set_option maxRecDepth 100000 in
set_option maxHeartbeats 1000000 in
theorem trod_mt {fuel : Nat} {cs : List Value} {x : DataW H × List MemPlace} (h : DataW.trod enc Tryd.prog W 0 (fun _ => true) true fuel 35 cs = some x) :
    ∃ (m : Mt) (A D : Option Addr) (c e : Nat), cs = mtL m A D c e ∧ MtRaw W m A D := by
  obtain ⟨xs, n, _, _, hl, hlen, hg⟩ := DataW.trod_struct Tryd.underlying35 h
  have hC : Tryd.prog.cellsOf 35 = 17 := by kernel_rfl
  have ki : Tryd.prog.cellsOf 3 = 1 := by kernel_rfl
  have k8 : Tryd.prog.cellsOf 22 = 1 := by kernel_rfl
  have kb : Tryd.prog.cellsOf 4 = 1 := by kernel_rfl
  have kp : Tryd.prog.cellsOf 33 = 3 := by kernel_rfl
  have kc : Tryd.prog.cellsOf 26 = 8 := by kernel_rfl
  rw [hC] at hl
  match cs, hl with
  | [c0, c1, c2, c3, c4, c5, c6, c7, c8, c9, c10, c11, c12, c13, c14, c15, c16], _ =>
    match xs, hlen with
    | [y0, y1, y2, y3, y4, y5, y6, y7], _ =>
      have t0 := hg 0 _ rfl
      have t1 := hg 1 _ rfl
      have t2 := hg 2 _ rfl
      have t3 := hg 3 _ rfl
      have t4 := hg 4 _ rfl
      have t5 := hg 5 _ rfl
      have t6 := hg 6 _ rfl
      have t7 := hg 7 _ rfl
      clear hg
      simp [k8] at t0
      simp [ki] at t1 t2 t5 t7
      simp [kp] at t3
      simp [kb] at t4
      simp [kc] at t6
      obtain ⟨z0, e0, _, w0⟩ := DataW.trod_int Tryd.underlying22 t0
      obtain ⟨z1, e1, _, _⟩ := DataW.trod_int Tryd.underlying3 t1
      obtain ⟨z2, e2, _, _⟩ := DataW.trod_int Tryd.underlying3 t2
      obtain ⟨p, e3⟩ := trod_pdM t3
      obtain ⟨y, e4, _⟩ := DataW.trod_bool Tryd.underlying4 t4
      obtain ⟨z5, e5, _, _⟩ := DataW.trod_int Tryd.underlying3 t5
      obtain ⟨co, A, D, nn, mm, e6, r1, r2, r3⟩ := trod_coS t6
      obtain ⟨z7, e7, _, _⟩ := DataW.trod_int Tryd.underlying3 t7
      unfold coL at e6
      simp at e0 e1 e2 e3 e4 e5 e6 e7
      obtain ⟨rfl, rfl, rfl⟩ := e3
      obtain ⟨rfl, rfl, rfl, rfl, rfl, rfl, rfl, rfl⟩ := e6
      subst e0; subst e1; subst e2; subst e4; subst e5; subst e7
      exact ⟨⟨z0, z1, z2, p, y, z5, co, z7⟩, A, D, nn, mm, rfl, r1, r2, r3⟩
set_option maxRecDepth 100000 in
theorem open_mts {r : Reach} {base : Nat} {v : Value} {d : DataW H} {p : List MemPlace} (hv : Value.okWide Tryd.prog W r base 44 v) (h : DataW.Trod enc Tryd.prog W 0 (fun _ => true) true 44 v d p) :
    ∃ (A : Option Addr) (c : Nat) (l : List MtM), v = .slice A l.length c ∧ Reads W W.heap.size 17 A l.length (cellsE l) ∧ ∀ m ∈ l, MtRaw W m.x m.A m.D := by
  obtain ⟨a0, len, cap, rfl⟩ := okWide_slice Tryd.underlying44 hv
  obtain ⟨fuel, hf⟩ := h
  have hf' : DataW.trod enc Tryd.prog W 0 (fun _ => true) true fuel 44 [.slice a0 len cap] = some (d, p) := hf
  rcases open_slice Tryd.underlying44 hf' with ⟨hcs, _⟩ | ⟨a, len', cap', m, n, D, Pl, hcs, _, hl, hm, hmm, hx, hi⟩
  · simp at hcs
    obtain ⟨rfl, rfl, rfl⟩ := hcs
    exact ⟨none, 0, [], rfl, Reads.none_, by simp⟩
  · simp at hcs
    obtain ⟨rfl, rfl, rfl⟩ := hcs
    simp only [if_true] at hmm
    subst hmm
    have hC : Tryd.prog.cellsOf 35 = 17 := by kernel_rfl
    rw [hC] at hi
    have hp : ∀ i, ∃ x : MtM, MtRaw W x.x x.A x.D ∧ (i < len → ∀ j u, (cE x)[j]? = some u → W.cell? (a.add (i * 17 + j)) = some u) := by
      intro i
      by_cases hlt : i < len
      · obtain ⟨cs', hc, ht⟩ := hi i (by omega)
        obtain ⟨ym, yA, yD, yc, ye, e, hq⟩ := trod_mt ht
        obtain ⟨y, hy⟩ : ∃ y : MtM, y = ⟨ym, yA, yD, yc, ye⟩ := ⟨_, rfl⟩
        have hq : MtRaw W y.x y.A y.D := by rw [hy]; exact hq
        have e : cs' = cE y := by rw [hy]; exact e
        obtain ⟨_, hcl, hat⟩ := World.cells?_some hc
        refine ⟨y, hq, fun _ j u hu => ?_⟩
        have hj : j < 17 := (List.getElem?_eq_some_iff.1 hu).1
        have h1 := hat j hj
        rw [e] at h1
        rw [← Go.Deep.add_add, h1]
        exact hu
      · exact ⟨⟨Mt0 0, none, none, 0, 0⟩, ⟨Reads.none_, Reads.none_, by decide, by decide⟩, fun h => absurd h hlt⟩
    have hget : ∀ i x, ((List.range len).map fun i => Classical.choose (hp i))[i]? = some x → i < len ∧ x = Classical.choose (hp i) := by
      intro i x hx
      rw [List.getElem?_map, Option.map_eq_some_iff] at hx
      obtain ⟨i', hi', rfl⟩ := hx
      have hlt : i < len := by
        have := (List.getElem?_eq_some_iff.1 hi').1
        simpa using this
      rw [List.getElem?_range hlt] at hi'
      obtain rfl : i = i' := by simpa using hi'
      exact ⟨hlt, rfl⟩
    refine ⟨some a, m, (List.range len).map fun i => Classical.choose (hp i), by simp, ⟨by rw [length_cellsE], fun hn => ⟨a, rfl, ?_, fun j u hu => ?_⟩⟩, fun x hx => ?_⟩
    · have hn' : 0 < len := by simpa using hn
      exact cell_block ((Classical.choose_spec (hp 0)).2 hn' 0 _ rfl)
    · have hlj : j < len * 17 := by
        have := (List.getElem?_eq_some_iff.1 hu).1
        rw [length_cellsE] at this
        simpa using this
      have hi15 : j / 17 < len := by omega
      have hg : ((List.range len).map fun i => Classical.choose (hp i))[j / 17]? = some (Classical.choose (hp (j / 17))) := by
        rw [List.getElem?_map, List.getElem?_range hi15]; rfl
      have h1 := cellsE_at _ (j / 17) _ (j % 17) hg (by omega)
      have e1 : j / 17 * 17 + j % 17 = j := by omega
      rw [e1, hu] at h1
      have h2 := (Classical.choose_spec (hp (j / 17))).2 hi15 (j % 17) u h1.symm
      rw [e1] at h2
      exact h2
    · obtain ⟨i, _, rfl⟩ := List.mem_map.1 hx
      exact (Classical.choose_spec (hp i)).1
end
end Go.Proofs.YtbpkckahonmpkaaDoor
