/-
  Layer 18, the document's May: the walk.
-/
import Derived.Test.YtagclnmchkgpdaaGrp06
set_option linter.unusedVariables false
set_option linter.unusedSimpArgs false
namespace Go.Proofs.Ytagclnmchkgpdaa
open Go.RowKit

set_option maxRecDepth 100000 in
set_option maxHeartbeats 1000000 in
theorem rmay_0 (c : Co) (A1 D1 : Option Addr) (c1 e1 : Nat) (B : Nat) (w : World) (h1 : CoR w B c A1 D1) (hB : B ≤ w.heap.size) (h8 : -128 ≤ c.st) (h9 : c.st ≤ 127) (hst : ¬ c.st = 0) (b0 : inB c.st 1 6 = false) :
    Calls Try.prog 34 #[(.agg #[.int .i8 c.st, .int .i64 c.pid, .int .i64 c.ep, .int .i64 c.tm, .int .i64 c.th, .slice A1 c.ps.length c1, .slice D1 c.qs.length e1, .int .i64 c.ag])] w fun e w' => e = .returned (.bool (rmayB c)) ∧ Below w.heap.size w w' := by
  have hs : rmayB c = false := by
    unfold rmayB aheadsB
    rw [if_neg hst, b0]
    simp
  have HB := Lib.hid (fun x => bal (Below.refl w.heap.size w) x)
  have HRI := Lib.hid (fun x => rise_any A1 c.ps c1 B (w.alloc x) (h1.1.alloc hB x) (by have := h1.2.2.1; omega))
  have z0 : (c.st == 0) = false := eqb_false hst
  have HS := Lib.hid hs
  clear hs h1 hst
  go_enter Try.func34, Try.ntmps34
  go_wp2_with (first | (go_at_call 39; refine (in_any _ _ _ _).mono ?_; rintro e w1 ⟨rfl, rfl⟩) | (go_at_call 40; refine (HRI.out _).mono ?_; rintro e w1 ⟨rfl, rfl⟩))
  go_ret
  exact ⟨ret_bool HS.out.symm, HB.out _⟩

set_option maxRecDepth 100000 in
set_option maxHeartbeats 1000000 in
theorem rmay_1 (c : Co) (A1 D1 : Option Addr) (c1 e1 : Nat) (B : Nat) (w : World) (h1 : CoR w B c A1 D1) (hB : B ≤ w.heap.size) (h8 : -128 ≤ c.st) (h9 : c.st ≤ 127) (hst : ¬ c.st = 0) (b0 : inB c.st 1 6 = true) (b1 : inB c.pid 1 8 = false) :
    Calls Try.prog 34 #[(.agg #[.int .i8 c.st, .int .i64 c.pid, .int .i64 c.ep, .int .i64 c.tm, .int .i64 c.th, .slice A1 c.ps.length c1, .slice D1 c.qs.length e1, .int .i64 c.ag])] w fun e w' => e = .returned (.bool (rmayB c)) ∧ Below w.heap.size w w' := by
  have hs : rmayB c = false := by
    unfold rmayB aheadsB
    rw [if_neg hst, b0, b1]
    simp
  have HB := Lib.hid (fun x => bal (Below.refl w.heap.size w) x)
  have HRI := Lib.hid (fun x => rise_any A1 c.ps c1 B (w.alloc x) (h1.1.alloc hB x) (by have := h1.2.2.1; omega))
  have z0 : (c.st == 0) = false := eqb_false hst
  have HS := Lib.hid hs
  clear hs h1 hst
  go_enter Try.func34, Try.ntmps34
  go_wp2_with (first | (go_at_call 39; refine (in_any _ _ _ _).mono ?_; rintro e w1 ⟨rfl, rfl⟩) | (go_at_call 40; refine (HRI.out _).mono ?_; rintro e w1 ⟨rfl, rfl⟩))
  go_ret
  exact ⟨ret_bool HS.out.symm, HB.out _⟩

set_option maxRecDepth 100000 in
set_option maxHeartbeats 1000000 in
theorem rmay_2 (c : Co) (A1 D1 : Option Addr) (c1 e1 : Nat) (B : Nat) (w : World) (h1 : CoR w B c A1 D1) (hB : B ≤ w.heap.size) (h8 : -128 ≤ c.st) (h9 : c.st ≤ 127) (hst : ¬ c.st = 0) (b0 : inB c.st 1 6 = true) (b1 : inB c.pid 1 8 = true) (b2 : inB c.ep 0 100 = false) :
    Calls Try.prog 34 #[(.agg #[.int .i8 c.st, .int .i64 c.pid, .int .i64 c.ep, .int .i64 c.tm, .int .i64 c.th, .slice A1 c.ps.length c1, .slice D1 c.qs.length e1, .int .i64 c.ag])] w fun e w' => e = .returned (.bool (rmayB c)) ∧ Below w.heap.size w w' := by
  have hs : rmayB c = false := by
    unfold rmayB aheadsB
    rw [if_neg hst, b0, b1, b2]
    simp
  have HB := Lib.hid (fun x => bal (Below.refl w.heap.size w) x)
  have HRI := Lib.hid (fun x => rise_any A1 c.ps c1 B (w.alloc x) (h1.1.alloc hB x) (by have := h1.2.2.1; omega))
  have z0 : (c.st == 0) = false := eqb_false hst
  have HS := Lib.hid hs
  clear hs h1 hst
  go_enter Try.func34, Try.ntmps34
  go_wp2_with (first | (go_at_call 39; refine (in_any _ _ _ _).mono ?_; rintro e w1 ⟨rfl, rfl⟩) | (go_at_call 40; refine (HRI.out _).mono ?_; rintro e w1 ⟨rfl, rfl⟩))
  go_ret
  exact ⟨ret_bool HS.out.symm, HB.out _⟩

set_option maxRecDepth 100000 in
set_option maxHeartbeats 1000000 in
theorem rmay_3 (c : Co) (A1 D1 : Option Addr) (c1 e1 : Nat) (B : Nat) (w : World) (h1 : CoR w B c A1 D1) (hB : B ≤ w.heap.size) (h8 : -128 ≤ c.st) (h9 : c.st ≤ 127) (hst : ¬ c.st = 0) (b0 : inB c.st 1 6 = true) (b1 : inB c.pid 1 8 = true) (b2 : inB c.ep 0 100 = true) (b3 : inB c.tm 1 20 = false) :
    Calls Try.prog 34 #[(.agg #[.int .i8 c.st, .int .i64 c.pid, .int .i64 c.ep, .int .i64 c.tm, .int .i64 c.th, .slice A1 c.ps.length c1, .slice D1 c.qs.length e1, .int .i64 c.ag])] w fun e w' => e = .returned (.bool (rmayB c)) ∧ Below w.heap.size w w' := by
  have hs : rmayB c = false := by
    unfold rmayB aheadsB
    rw [if_neg hst, b0, b1, b2, b3]
    simp
  have HB := Lib.hid (fun x => bal (Below.refl w.heap.size w) x)
  have HRI := Lib.hid (fun x => rise_any A1 c.ps c1 B (w.alloc x) (h1.1.alloc hB x) (by have := h1.2.2.1; omega))
  have z0 : (c.st == 0) = false := eqb_false hst
  have HS := Lib.hid hs
  clear hs h1 hst
  go_enter Try.func34, Try.ntmps34
  go_wp2_with (first | (go_at_call 39; refine (in_any _ _ _ _).mono ?_; rintro e w1 ⟨rfl, rfl⟩) | (go_at_call 40; refine (HRI.out _).mono ?_; rintro e w1 ⟨rfl, rfl⟩))
  go_ret
  exact ⟨ret_bool HS.out.symm, HB.out _⟩

set_option maxRecDepth 100000 in
set_option maxHeartbeats 1000000 in
theorem rmay_4 (c : Co) (A1 D1 : Option Addr) (c1 e1 : Nat) (B : Nat) (w : World) (h1 : CoR w B c A1 D1) (hB : B ≤ w.heap.size) (h8 : -128 ≤ c.st) (h9 : c.st ≤ 127) (hst : ¬ c.st = 0) (b0 : inB c.st 1 6 = true) (b1 : inB c.pid 1 8 = true) (b2 : inB c.ep 0 100 = true) (b3 : inB c.tm 1 20 = true) (b4 : inB c.ag 0 1048576 = false) :
    Calls Try.prog 34 #[(.agg #[.int .i8 c.st, .int .i64 c.pid, .int .i64 c.ep, .int .i64 c.tm, .int .i64 c.th, .slice A1 c.ps.length c1, .slice D1 c.qs.length e1, .int .i64 c.ag])] w fun e w' => e = .returned (.bool (rmayB c)) ∧ Below w.heap.size w w' := by
  have hs : rmayB c = false := by
    unfold rmayB aheadsB
    rw [if_neg hst, b0, b1, b2, b3, b4]
    simp
  have HB := Lib.hid (fun x => bal (Below.refl w.heap.size w) x)
  have HRI := Lib.hid (fun x => rise_any A1 c.ps c1 B (w.alloc x) (h1.1.alloc hB x) (by have := h1.2.2.1; omega))
  have z0 : (c.st == 0) = false := eqb_false hst
  have HS := Lib.hid hs
  clear hs h1 hst
  go_enter Try.func34, Try.ntmps34
  go_wp2_with (first | (go_at_call 39; refine (in_any _ _ _ _).mono ?_; rintro e w1 ⟨rfl, rfl⟩) | (go_at_call 40; refine (HRI.out _).mono ?_; rintro e w1 ⟨rfl, rfl⟩))
  go_ret
  exact ⟨ret_bool HS.out.symm, HB.out _⟩

set_option maxRecDepth 100000 in
set_option maxHeartbeats 1000000 in
theorem rmay_5 (c : Co) (A1 D1 : Option Addr) (c1 e1 : Nat) (B : Nat) (w : World) (h1 : CoR w B c A1 D1) (hB : B ≤ w.heap.size) (h8 : -128 ≤ c.st) (h9 : c.st ≤ 127) (hst : ¬ c.st = 0) (b0 : inB c.st 1 6 = true) (b1 : inB c.pid 1 8 = true) (b2 : inB c.ep 0 100 = true) (b3 : inB c.tm 1 20 = true) (b4 : inB c.ag 0 1048576 = true) (b5 : riseB c.ps = false) :
    Calls Try.prog 34 #[(.agg #[.int .i8 c.st, .int .i64 c.pid, .int .i64 c.ep, .int .i64 c.tm, .int .i64 c.th, .slice A1 c.ps.length c1, .slice D1 c.qs.length e1, .int .i64 c.ag])] w fun e w' => e = .returned (.bool (rmayB c)) ∧ Below w.heap.size w w' := by
  have hs : rmayB c = false := by
    unfold rmayB aheadsB
    rw [if_neg hst, b0, b1, b2, b3, b4, b5]
    simp
  have HB := Lib.hid (fun x => bal (Below.refl w.heap.size w) x)
  have HRI := Lib.hid (fun x => rise_any A1 c.ps c1 B (w.alloc x) (h1.1.alloc hB x) (by have := h1.2.2.1; omega))
  have z0 : (c.st == 0) = false := eqb_false hst
  have HS := Lib.hid hs
  clear hs h1 hst
  go_enter Try.func34, Try.ntmps34
  go_wp2_with (first | (go_at_call 39; refine (in_any _ _ _ _).mono ?_; rintro e w1 ⟨rfl, rfl⟩) | (go_at_call 40; refine (HRI.out _).mono ?_; rintro e w1 ⟨rfl, rfl⟩))
  go_ret
  exact ⟨ret_bool HS.out.symm, HB.out _⟩

set_option maxRecDepth 100000 in
set_option maxHeartbeats 1000000 in
theorem rmay_6 (c : Co) (A1 D1 : Option Addr) (c1 e1 : Nat) (B : Nat) (w : World) (h1 : CoR w B c A1 D1) (hB : B ≤ w.heap.size) (h8 : -128 ≤ c.st) (h9 : c.st ≤ 127) (hst : ¬ c.st = 0) (b0 : inB c.st 1 6 = true) (b1 : inB c.pid 1 8 = true) (b2 : inB c.ep 0 100 = true) (b3 : inB c.tm 1 20 = true) (b4 : inB c.ag 0 1048576 = true) (b5 : riseB c.ps = true) (b6 : inB c.th 0 20 = false) :
    Calls Try.prog 34 #[(.agg #[.int .i8 c.st, .int .i64 c.pid, .int .i64 c.ep, .int .i64 c.tm, .int .i64 c.th, .slice A1 c.ps.length c1, .slice D1 c.qs.length e1, .int .i64 c.ag])] w fun e w' => e = .returned (.bool (rmayB c)) ∧ Below w.heap.size w w' := by
  have hs : rmayB c = false := by
    unfold rmayB aheadsB
    rw [if_neg hst, b0, b1, b2, b3, b4, b5, b6]
    simp
  have HB := Lib.hid (fun x => bal (Below.refl w.heap.size w) x)
  have HRI := Lib.hid (fun x => rise_any A1 c.ps c1 B (w.alloc x) (h1.1.alloc hB x) (by have := h1.2.2.1; omega))
  have z0 : (c.st == 0) = false := eqb_false hst
  have HS := Lib.hid hs
  clear hs h1 hst
  go_enter Try.func34, Try.ntmps34
  go_wp2_with (first | (go_at_call 39; refine (in_any _ _ _ _).mono ?_; rintro e w1 ⟨rfl, rfl⟩) | (go_at_call 40; refine (HRI.out _).mono ?_; rintro e w1 ⟨rfl, rfl⟩))
  go_ret
  exact ⟨ret_bool HS.out.symm, HB.out _⟩

set_option maxRecDepth 100000 in
set_option maxHeartbeats 2000000 in
theorem rmay_7 (c : Co) (A1 D1 : Option Addr) (c1 e1 : Nat) (B : Nat) (w : World) (h1 : CoR w B c A1 D1) (hB : B ≤ w.heap.size) (h8 : -128 ≤ c.st) (h9 : c.st ≤ 127) (hst : ¬ c.st = 0) (b0 : inB c.st 1 6 = true) (b1 : inB c.pid 1 8 = true) (b2 : inB c.ep 0 100 = true) (b3 : inB c.tm 1 20 = true) (b4 : inB c.ag 0 1048576 = true) (b5 : riseB c.ps = true) (b6 : inB c.th 0 20 = true) :
    Calls Try.prog 34 #[(.agg #[.int .i8 c.st, .int .i64 c.pid, .int .i64 c.ep, .int .i64 c.tm, .int .i64 c.th, .slice A1 c.ps.length c1, .slice D1 c.qs.length e1, .int .i64 c.ag])] w fun e w' => e = .returned (.bool (rmayB c)) ∧ Below w.heap.size w w' := by
  have hs : rmayB c = (pendsB c.qs && lastB c) := by
    unfold rmayB aheadsB
    rw [if_neg hst, b0, b1, b2, b3, b4, b5, b6]
    simp
  have HB := Lib.hid (fun x => bal (Below.refl w.heap.size w) x)
  have HRI := Lib.hid (fun x => rise_any A1 c.ps c1 B (w.alloc x) (h1.1.alloc hB x) (by have := h1.2.2.1; omega))
  have z0 : (c.st == 0) = false := eqb_false hst
  have Q1 := Lib.hid (h1.2.1.more hB)
  have hql := h1.2.2.2
  have BK0 := Lib.hid (Blk.new w 26 #[.int .i8 c.st, .int .i64 c.pid, .int .i64 c.ep, .int .i64 c.tm, .int .i64 c.th, .slice A1 c.ps.length c1, .slice D1 c.qs.length e1, .int .i64 c.ag])
  have HS := Lib.hid hs
  clear hs h1 hst
  go_enter Try.func34, Try.ntmps34
  go_wp2_with (first | (go_at_call 39; refine (in_any _ _ _ _).mono ?_; rintro e w1 ⟨rfl, rfl⟩) | (go_at_call 40; refine (HRI.out _).mono ?_; rintro e w1 ⟨rfl, rfl⟩))
  go_loopw [3] (fun x wr => ∃ k : Nat, k ≤ c.qs.length ∧ x = .int .i64 k ∧ PendsTo c.qs k ∧ Below w.heap.size w wr ∧ w.heap.size < wr.heap.size ∧ Blk wr w.heap.size 26 #[.int .i8 c.st, .int .i64 c.pid, .int .i64 c.ep, .int .i64 c.tm, .int .i64 c.th, .slice A1 c.ps.length c1, .slice D1 c.qs.length e1, .int .i64 c.ag]) (fun x _ => c.qs.length - (intOf x).toNat)
  case atStart => exact ⟨0, Nat.zero_le _, rfl, ⟨Adj.one (by omega), by simp⟩, HB.out _, by simp, BK0.out⟩
  case round =>
    obtain ⟨k, hk, rfl, hto, hbel, hsz, hblk⟩ := hrel
    have HTO := Lib.hid hto
    have HBEL := Lib.hid hbel
    have HBLK := Lib.hid hblk
    have k6 := bw_cell (B := wr.heap.size) (hblk.cell 6) hsz
    clear hto hbel hblk
    by_cases hlt : k < c.qs.length
    · have f1 : decide ((k : Int) < (c.qs.length : Int)) = true := by simp; omega
      have g0 := HBLK.out.cell 6
      obtain ⟨bb, oo, rfl, hbb, hc1⟩ := (Q1.out.below HBEL.out).plain3 (by omega)
      obtain ⟨x, hx⟩ : ∃ z, c.qs[k]? = some z := ⟨_, List.getElem?_eq_getElem hlt⟩
      obtain ⟨g1, g2, g3⟩ := hc1 k _ hx
      have k1 := bw_cell (B := wr.heap.size) g1 (by omega)
      have k2 := bw_cell (B := wr.heap.size) g2 (by omega)
      have k3 := bw_cell (B := wr.heap.size) g3 (by omega)
      have i1 : (0 : Int) ≤ (k : Int) := by omega
      have i2 : (k : Int) < (c.qs.length : Int) := by omega
      have HX := Lib.hid hx
      have HP := Lib.hid (fun W => pend_any x W)
      by_cases hpx : pendB x = false
      · have HF := Lib.hid (show rmayB c = false by
          rw [HS.out, pendsB_false (fun h => by have h2 := h.2; rw [List.take_length, all_not HX.out hpx] at h2; cases h2)]; rfl)
        clear hc1 hx g1 g2 g3
        go_wp2_with fail
        refine wp_region_bq wr.heap.size (by kernel_rfl) (by kernel_rfl) ?_
        repeat (go_big_quiet_step ((go_at_call 41; exact bw_call (Nat.le_refl _) (HP.out _))))
        refine wpQuiet_nil ?_
        rintro _ ⟨n, rfl⟩
        have hn := n.2
        go_wp2_with fail
        go_ret
        exact ⟨ret_bool HF.out.symm, btrans HBEL.out hn⟩
      · have hpt : pendB x = true := by simpa using hpx
        rcases Nat.eq_zero_or_pos k with hk0 | hk0
        · subst hk0
          have f2 : decide ((0 : Int) < ((0 : Nat) : Int)) = false := by decide
          simp only [Nat.zero_mul, Nat.add_zero] at k1 k2 k3
          have HN := Lib.hid (show PendsTo c.qs (0 + 1) from ⟨Adj.one (by omega), all_take_succ hx HTO.out.2 hpt⟩)
          clear hc1 hx g1 g2 g3 hpx
          go_wp2_with fail
          refine wp_region_bq wr.heap.size (by kernel_rfl) (by kernel_rfl) ?_
          repeat (go_big_quiet_step ((go_at_call 41; exact bw_call (Nat.le_refl _) (HP.out _))))
          refine wpQuiet_nil ?_
          rintro _ ⟨n, rfl⟩
          have hn := n.2
          have hns := hn.size
          have bkn := HBLK.out.below hn hsz
          generalize n.1 = W at *
          go_wp2_with fail
          go_roundw
          case rel => exact ⟨0 + 1, by omega, by go_num, HN.out, btrans HBEL.out hn, by omega, bkn⟩
          case measure => simp [intOf]; omega
        · obtain ⟨j, rfl⟩ : ∃ j, k = j + 1 := ⟨k - 1, by omega⟩
          obtain ⟨y, hy⟩ : ∃ z, c.qs[j]? = some z := ⟨_, List.getElem?_eq_getElem (by omega)⟩
          obtain ⟨g4, g5, g6⟩ := hc1 j _ hy
          have k4 := bw_cell (B := wr.heap.size) g4 (by omega)
          have k5 := bw_cell (B := wr.heap.size) g5 (by omega)
          have k7 := bw_cell (B := wr.heap.size) g6 (by omega)
          have e1 : IntKind.i64.wrap (((j + 1 : Nat) : Int) - 1) = (j : Int) := by rw [show ((j + 1 : Nat) : Int) - 1 = (j : Int) by omega]; exact IntWalk.i64_in _ (by omega)
          have f2 : decide ((0 : Int) < ((j + 1 : Nat) : Int)) = true := decide_eq_true (by omega)
          have i3 : (0 : Int) ≤ (j : Int) := by omega
          have i4 : (j : Int) < (c.qs.length : Int) := by omega
          have HA := Lib.hid (fun W => ahead_any y x W)
          cases hyx : aheadB y x
          · have HF := Lib.hid (show rmayB c = false by
              rw [HS.out, pendsB_false (fun h => by have h2 : aheadB y x = true := h.1 j y x (by omega) hy hx; rw [hyx] at h2; cases h2)]; rfl)
            clear hc1 hx hy g1 g2 g3 g4 g5 g6 hpx
            go_wp2_with fail
            refine wp_region_bq wr.heap.size (by kernel_rfl) (by kernel_rfl) ?_
            repeat (go_big_quiet_step ((first | (go_at_call 41; exact bw_call (Nat.le_refl _) (HP.out _)) | (go_at_call 42; exact bw_call (Nat.le_refl _) (HA.out _)))))
            refine wpQuiet_nil ?_
            rintro _ ⟨n, rfl⟩
            have hn := n.2
            go_wp2_with fail
            go_ret
            exact ⟨ret_bool HF.out.symm, btrans HBEL.out hn⟩
          · have HN := Lib.hid (show PendsTo c.qs (j + 1 + 1) from ⟨HTO.out.1.step (by omega) hy hx hyx, all_take_succ hx HTO.out.2 hpt⟩)
            clear hc1 hx hy g1 g2 g3 g4 g5 g6 hpx
            go_wp2_with fail
            refine wp_region_bq wr.heap.size (by kernel_rfl) (by kernel_rfl) ?_
            repeat (go_big_quiet_step ((first | (go_at_call 41; exact bw_call (Nat.le_refl _) (HP.out _)) | (go_at_call 42; exact bw_call (Nat.le_refl _) (HA.out _)))))
            refine wpQuiet_nil ?_
            rintro _ ⟨n, rfl⟩
            have hn := n.2
            have hns := hn.size
            have bkn := HBLK.out.below hn hsz
            generalize n.1 = W at *
            go_wp2_with fail
            go_roundw
            case rel => exact ⟨j + 1 + 1, by omega, by go_num, HN.out, btrans HBEL.out hn, by omega, bkn⟩
            case measure => simp [intOf]; omega
    · obtain rfl : k = c.qs.length := by omega
      have f1 : decide ((c.qs.length : Int) < (c.qs.length : Int)) = false := by simp
      have HL := Lib.hid (show rmayB c = lastB c by rw [HS.out, pendsB_true HTO.out]; rfl)
      have bel2 := HBEL.out
      have HBU := Lib.hid (busy_any c A1 D1 c1 e1 wr)
      have g0 := HBLK.out.cell 0
      have g1 := HBLK.out.cell 1
      have g2 := HBLK.out.cell 2
      have g3 := HBLK.out.cell 3
      have g4 := HBLK.out.cell 4
      have g5 := HBLK.out.cell 5
      have g6 := HBLK.out.cell 6
      have g7 := HBLK.out.cell 7
      go_wp2_with fail
      refine HBU.out.mono ?_
      rintro e w2 ⟨rfl, b2⟩
      have bkn := HBLK.out.below b2 hsz
      have j0 := bkn.cell 0
      have j2 := bkn.cell 2
      have j4 := bkn.cell 4
      have j5 := bkn.cell 5
      have j6 := bkn.cell 6
      have j7 := bkn.cell 7
      have HBB := Lib.hid (btrans bel2 b2)
      have hl : lastB c = (!((!busyB c && (decide (0 < c.ps.length) || (decide (0 < c.qs.length) || decide (0 < c.ag)))) || ((c.st == 2) && (decide (c.ps.length = 0) && decide (c.qs.length = 0)))) && ((c.th == 0) || ((c.st == 4) && decide (c.ep < 100)))) := rfl
      have HL2 := Lib.hid (HL.out.trans hl)
      clear HL hl
      generalize busyB c = bb at *
      clear bel2 b2 bkn g0 g1 g2 g3 g4 g5 g6 g7 k6
      have key : (bb = false ∧ 0 < c.ps.length) ∨ (bb = false ∧ c.ps.length = 0 ∧ 0 < c.qs.length) ∨ (bb = false ∧ c.ps.length = 0 ∧ c.qs.length = 0 ∧ 0 < c.ag) ∨ (bb = false ∧ c.ps.length = 0 ∧ c.qs.length = 0 ∧ c.ag ≤ 0 ∧ ¬ c.st = 2) ∨ (bb = false ∧ c.ps.length = 0 ∧ c.qs.length = 0 ∧ c.ag ≤ 0 ∧ c.st = 2) ∨
          (bb = true ∧ ¬ c.st = 2) ∨ (bb = true ∧ c.st = 2 ∧ 0 < c.ps.length) ∨ (bb = true ∧ c.st = 2 ∧ c.ps.length = 0 ∧ 0 < c.qs.length) ∨ (bb = true ∧ c.st = 2 ∧ c.ps.length = 0 ∧ c.qs.length = 0) := by
        cases bb <;> simp only [true_and, false_and, or_false, false_or, reduceCtorEq] <;> omega
      rcases key with ⟨rfl, a1⟩ | ⟨rfl, a1, a2⟩ | ⟨rfl, a1, a2, a3⟩ | ⟨rfl, a1, a2, a3, a4⟩ | ⟨rfl, a1, a2, a3, a4⟩ | ⟨rfl, a1⟩ | ⟨rfl, a1, a2⟩ | ⟨rfl, a1, a2, a3⟩ | ⟨rfl, a1, a2, a3⟩
      · have hv : rmayB c = false := by
          rw [HL2.out]
          generalize c.ps.length = n at *
          generalize c.qs.length = m at *
          generalize ((c.th == 0) || ((c.st == 4) && decide (c.ep < 100))) = bz
          cases bz <;> simp <;> omega
        have y0 : decide (0 < c.ps.length) = true := decide_eq_true (by omega)
        have y1 : decide ((0 : Int) < (c.ps.length : Int)) = true := decide_eq_true (by omega)
        have y2 : ((c.ps.length : Int) == 0) = false := eqb_false (by omega)
        have HV := Lib.hid hv
        clear hv HL2 a1
        go_wp2_with fail
        all_goals go_ret
        all_goals refine ⟨ret_bool (by first | exact HV.out.symm | (rw [HV.out]; simp [*])), HBB.out⟩
      · have hv : rmayB c = false := by
          rw [HL2.out]
          generalize c.ps.length = n at *
          generalize c.qs.length = m at *
          generalize ((c.th == 0) || ((c.st == 4) && decide (c.ep < 100))) = bz
          cases bz <;> simp <;> omega
        have y0 : decide (0 < c.ps.length) = false := decide_eq_false (by omega)
        have y1 : decide ((0 : Int) < (c.ps.length : Int)) = false := decide_eq_false (by omega)
        have y2 : ((c.ps.length : Int) == 0) = true := eqb_true (by omega)
        have y3 : decide (0 < c.qs.length) = true := decide_eq_true (by omega)
        have y4 : decide ((0 : Int) < (c.qs.length : Int)) = true := decide_eq_true (by omega)
        have y5 : ((c.qs.length : Int) == 0) = false := eqb_false (by omega)
        have HV := Lib.hid hv
        clear hv HL2 a1 a2
        go_wp2_with fail
        all_goals go_ret
        all_goals refine ⟨ret_bool (by first | exact HV.out.symm | (rw [HV.out]; simp [*])), HBB.out⟩
      · have hv : rmayB c = false := by
          rw [HL2.out]
          generalize c.ps.length = n at *
          generalize c.qs.length = m at *
          generalize ((c.th == 0) || ((c.st == 4) && decide (c.ep < 100))) = bz
          cases bz <;> simp <;> omega
        have y0 : decide (0 < c.ps.length) = false := decide_eq_false (by omega)
        have y1 : decide ((0 : Int) < (c.ps.length : Int)) = false := decide_eq_false (by omega)
        have y2 : ((c.ps.length : Int) == 0) = true := eqb_true (by omega)
        have y3 : decide (0 < c.qs.length) = false := decide_eq_false (by omega)
        have y4 : decide ((0 : Int) < (c.qs.length : Int)) = false := decide_eq_false (by omega)
        have y5 : ((c.qs.length : Int) == 0) = true := eqb_true (by omega)
        have y6 : decide (0 < c.ag) = true := decide_eq_true (by omega)
        have HV := Lib.hid hv
        clear hv HL2 a1 a2 a3
        go_wp2_with fail
        all_goals go_ret
        all_goals refine ⟨ret_bool (by first | exact HV.out.symm | (rw [HV.out]; simp [*])), HBB.out⟩
      · have hv : rmayB c = ((c.th == 0) || ((c.st == 4) && decide (c.ep < 100))) := by
          rw [HL2.out]
          generalize c.ps.length = n at *
          generalize c.qs.length = m at *
          generalize ((c.th == 0) || ((c.st == 4) && decide (c.ep < 100))) = bz
          cases bz <;> simp <;> omega
        have y0 : decide (0 < c.ps.length) = false := decide_eq_false (by omega)
        have y1 : decide ((0 : Int) < (c.ps.length : Int)) = false := decide_eq_false (by omega)
        have y2 : ((c.ps.length : Int) == 0) = true := eqb_true (by omega)
        have y3 : decide (0 < c.qs.length) = false := decide_eq_false (by omega)
        have y4 : decide ((0 : Int) < (c.qs.length : Int)) = false := decide_eq_false (by omega)
        have y5 : ((c.qs.length : Int) == 0) = true := eqb_true (by omega)
        have y6 : decide (0 < c.ag) = false := decide_eq_false (by omega)
        have y7 : (c.st == 2) = false := eqb_false (by omega)
        have HV := Lib.hid hv
        clear hv HL2 a1 a2 a3 a4
        go_wp2_with fail
        all_goals go_ret
        all_goals refine ⟨ret_bool (by first | exact HV.out.symm | (rw [HV.out]; simp [*])), HBB.out⟩
      · have hv : rmayB c = false := by
          rw [HL2.out]
          generalize c.ps.length = n at *
          generalize c.qs.length = m at *
          generalize ((c.th == 0) || ((c.st == 4) && decide (c.ep < 100))) = bz
          cases bz <;> simp <;> omega
        have y0 : decide (0 < c.ps.length) = false := decide_eq_false (by omega)
        have y1 : decide ((0 : Int) < (c.ps.length : Int)) = false := decide_eq_false (by omega)
        have y2 : ((c.ps.length : Int) == 0) = true := eqb_true (by omega)
        have y3 : decide (0 < c.qs.length) = false := decide_eq_false (by omega)
        have y4 : decide ((0 : Int) < (c.qs.length : Int)) = false := decide_eq_false (by omega)
        have y5 : ((c.qs.length : Int) == 0) = true := eqb_true (by omega)
        have y6 : decide (0 < c.ag) = false := decide_eq_false (by omega)
        have y7 : (c.st == 2) = true := eqb_true (by omega)
        have HV := Lib.hid hv
        clear hv HL2 a1 a2 a3 a4
        go_wp2_with fail
        all_goals go_ret
        all_goals refine ⟨ret_bool (by first | exact HV.out.symm | (rw [HV.out]; simp [*])), HBB.out⟩
      · have hv : rmayB c = ((c.th == 0) || ((c.st == 4) && decide (c.ep < 100))) := by
          rw [HL2.out]
          generalize c.ps.length = n at *
          generalize c.qs.length = m at *
          generalize ((c.th == 0) || ((c.st == 4) && decide (c.ep < 100))) = bz
          cases bz <;> simp <;> omega
        have y0 : (c.st == 2) = false := eqb_false (by omega)
        have HV := Lib.hid hv
        clear hv HL2 a1
        go_wp2_with fail
        all_goals go_ret
        all_goals refine ⟨ret_bool (by first | exact HV.out.symm | (rw [HV.out]; simp [*])), HBB.out⟩
      · have hv : rmayB c = ((c.th == 0) || ((c.st == 4) && decide (c.ep < 100))) := by
          rw [HL2.out]
          generalize c.ps.length = n at *
          generalize c.qs.length = m at *
          generalize ((c.th == 0) || ((c.st == 4) && decide (c.ep < 100))) = bz
          cases bz <;> simp <;> omega
        have y0 : (c.st == 2) = true := eqb_true (by omega)
        have y1 : decide (0 < c.ps.length) = true := decide_eq_true (by omega)
        have y2 : decide ((0 : Int) < (c.ps.length : Int)) = true := decide_eq_true (by omega)
        have y3 : ((c.ps.length : Int) == 0) = false := eqb_false (by omega)
        have HV := Lib.hid hv
        clear hv HL2 a1 a2
        go_wp2_with fail
        all_goals go_ret
        all_goals refine ⟨ret_bool (by first | exact HV.out.symm | (rw [HV.out]; simp [*])), HBB.out⟩
      · have hv : rmayB c = ((c.th == 0) || ((c.st == 4) && decide (c.ep < 100))) := by
          rw [HL2.out]
          generalize c.ps.length = n at *
          generalize c.qs.length = m at *
          generalize ((c.th == 0) || ((c.st == 4) && decide (c.ep < 100))) = bz
          cases bz <;> simp <;> omega
        have y0 : (c.st == 2) = true := eqb_true (by omega)
        have y1 : decide (0 < c.ps.length) = false := decide_eq_false (by omega)
        have y2 : decide ((0 : Int) < (c.ps.length : Int)) = false := decide_eq_false (by omega)
        have y3 : ((c.ps.length : Int) == 0) = true := eqb_true (by omega)
        have y4 : decide (0 < c.qs.length) = true := decide_eq_true (by omega)
        have y5 : decide ((0 : Int) < (c.qs.length : Int)) = true := decide_eq_true (by omega)
        have y6 : ((c.qs.length : Int) == 0) = false := eqb_false (by omega)
        have HV := Lib.hid hv
        clear hv HL2 a1 a2 a3
        go_wp2_with fail
        all_goals go_ret
        all_goals refine ⟨ret_bool (by first | exact HV.out.symm | (rw [HV.out]; simp [*])), HBB.out⟩
      · have hv : rmayB c = false := by
          rw [HL2.out]
          generalize c.ps.length = n at *
          generalize c.qs.length = m at *
          generalize ((c.th == 0) || ((c.st == 4) && decide (c.ep < 100))) = bz
          cases bz <;> simp <;> omega
        have y0 : (c.st == 2) = true := eqb_true (by omega)
        have y1 : decide (0 < c.ps.length) = false := decide_eq_false (by omega)
        have y2 : decide ((0 : Int) < (c.ps.length : Int)) = false := decide_eq_false (by omega)
        have y3 : ((c.ps.length : Int) == 0) = true := eqb_true (by omega)
        have y4 : decide (0 < c.qs.length) = false := decide_eq_false (by omega)
        have y5 : decide ((0 : Int) < (c.qs.length : Int)) = false := decide_eq_false (by omega)
        have y6 : ((c.qs.length : Int) == 0) = true := eqb_true (by omega)
        have HV := Lib.hid hv
        clear hv HL2 a1 a2 a3
        go_wp2_with fail
        all_goals go_ret
        all_goals refine ⟨ret_bool (by first | exact HV.out.symm | (rw [HV.out]; simp [*])), HBB.out⟩

set_option maxRecDepth 100000 in
set_option maxHeartbeats 1000000 in
theorem rMay_any (c : Co) (A1 D1 : Option Addr) (c1 e1 : Nat) (B : Nat) (w : World) (h1 : CoR w B c A1 D1) (hB : B ≤ w.heap.size) (h8 : -128 ≤ c.st) (h9 : c.st ≤ 127) :
    Calls Try.prog 34 #[(.agg #[.int .i8 c.st, .int .i64 c.pid, .int .i64 c.ep, .int .i64 c.tm, .int .i64 c.th, .slice A1 c.ps.length c1, .slice D1 c.qs.length e1, .int .i64 c.ag])] w fun e w' => e = .returned (.bool (mayB c)) ∧ Below w.heap.size w w' := by
  rw [← may_same]
  by_cases hst : c.st = 0
  · have hs : rmayB c = sameB c Co0 := by unfold rmayB; rw [if_pos hst]
    have z0 := eqb_true hst
    have HB := Lib.hid (fun x => bal (Below.refl w.heap.size w) x)
    have HSM := Lib.hid (fun x => rSame_any c Co0 A1 D1 c1 e1 none none 0 0 B B (w.alloc x) (h1.below (((Below.refl w.heap.size w).alloc (Nat.le_refl _) x).mono hB)) (CoR.zero _ _ _ _) (by simp; omega) (by simp; omega))
    have HS := Lib.hid hs
    clear hs h1 hst
    go_enter Try.func34, Try.ntmps34
    go_wp2_with (go_at_call 23; refine (HSM.out _).mono ?_; rintro e w1 ⟨rfl, hbr⟩)
    go_ret
    exact ⟨ret_bool HS.out.symm, btrans (HB.out _) hbr⟩
  cases b0 : inB c.st 1 6
  · exact rmay_0 c A1 D1 c1 e1 B w h1 hB h8 h9 hst b0
  cases b1 : inB c.pid 1 8
  · exact rmay_1 c A1 D1 c1 e1 B w h1 hB h8 h9 hst b0 b1
  cases b2 : inB c.ep 0 100
  · exact rmay_2 c A1 D1 c1 e1 B w h1 hB h8 h9 hst b0 b1 b2
  cases b3 : inB c.tm 1 20
  · exact rmay_3 c A1 D1 c1 e1 B w h1 hB h8 h9 hst b0 b1 b2 b3
  cases b4 : inB c.ag 0 1048576
  · exact rmay_4 c A1 D1 c1 e1 B w h1 hB h8 h9 hst b0 b1 b2 b3 b4
  cases b5 : riseB c.ps
  · exact rmay_5 c A1 D1 c1 e1 B w h1 hB h8 h9 hst b0 b1 b2 b3 b4 b5
  cases b6 : inB c.th 0 20
  · exact rmay_6 c A1 D1 c1 e1 B w h1 hB h8 h9 hst b0 b1 b2 b3 b4 b5 b6
  exact rmay_7 c A1 D1 c1 e1 B w h1 hB h8 h9 hst b0 b1 b2 b3 b4 b5 b6
end Go.Proofs.Ytagclnmchkgpdaa
