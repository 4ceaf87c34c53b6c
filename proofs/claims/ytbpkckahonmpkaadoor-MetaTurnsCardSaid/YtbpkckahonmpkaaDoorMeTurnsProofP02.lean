/-
  Layer 18: states.inRange, states.May.
-/
import Derived.Test.YtbpkckahonmpkaaDoorMeTurnsProofP01
set_option linter.unusedVariables false
set_option linter.unusedSimpArgs false
namespace Go.Proofs.YtbpkckahonmpkaaDoor
open Go.RowKit

theorem all_take_succ {l : List Pd} {k : Nat} {x : Pd} (hx : l[k]? = some x) (h : (l.take k).all pendB = true) (hp : pendB x = true) : (l.take (k + 1)).all pendB = true := by
  rw [List.take_add_one, hx, List.all_append, h]
  simp [hp]
theorem all_not {l : List Pd} {k : Nat} {x : Pd} (hx : l[k]? = some x) (hp : pendB x = false) : l.all pendB = false := by
  rw [List.all_eq_false]
  exact ⟨x, List.mem_of_getElem? hx, by simp [hp]⟩

set_option maxRecDepth 100000 in
set_option maxHeartbeats 1000000 in
theorem inRange_any (c : Co) (A1 D1 : Option Addr) (c1 e1 : Nat) (B : Nat) (w : World) (h1 : CoR w B c A1 D1) (hB : B ≤ w.heap.size) :
    Calls Tryd.prog 63 #[(.agg #[.int .i8 c.st, .int .i64 c.pid, .int .i64 c.ep, .int .i64 c.tm, .int .i64 c.th, .slice A1 c.ps.length c1, .slice D1 c.qs.length e1, .int .i64 c.ag])] w fun e w' => e = .returned (.bool (rangeB c)) ∧ Below w.heap.size w w' := by
  obtain ⟨r1, q1, n1, m1⟩ := h1
  have R1 := Lib.hid (r1.more hB)
  have Q1 := Lib.hid (q1.more hB)
  clear r1 q1
  have hb0 : Below w.heap.size w (w.alloc (.cells #[.int .i8 c.st, .int .i64 c.pid, .int .i64 c.ep, .int .i64 c.tm, .int .i64 c.th, .slice A1 c.ps.length c1, .slice D1 c.qs.length e1, .int .i64 c.ag] 26)) := bal (Below.refl _ _) _
  have bk0 := Blk.new w 26 #[.int .i8 c.st, .int .i64 c.pid, .int .i64 c.ep, .int .i64 c.tm, .int .i64 c.th, .slice A1 c.ps.length c1, .slice D1 c.qs.length e1, .int .i64 c.ag]
  have HB0 := Lib.hid hb0
  have HK0 := Lib.hid bk0
  have hs : rangeB c = (c.qs.all pendB && (decide (1 ≤ c.pid) && (decide (c.pid ≤ 8) && (decide (0 ≤ c.ep) && (decide (c.ep ≤ 100) && (decide (1 ≤ c.tm) && (decide (c.tm ≤ 20) && (decide (0 ≤ c.ag) && (decide (c.ag ≤ 1048576) && (partsB c.ps && adjB aheadP c.qs)))))))))) := rfl
  have HS := Lib.hid hs
  clear hb0 bk0 hs
  go_enter Tryd.func63, Tryd.ntmps63
  go_wp2_with fail
  go_loopw [8] (fun x wr => ∃ k : Nat, k ≤ c.qs.length ∧ x = .int .i64 k ∧ (c.qs.take k).all pendB = true ∧ Below w.heap.size w wr ∧ w.heap.size < wr.heap.size ∧ Blk wr w.heap.size 26 #[.int .i8 c.st, .int .i64 c.pid, .int .i64 c.ep, .int .i64 c.tm, .int .i64 c.th, .slice A1 c.ps.length c1, .slice D1 c.qs.length e1, .int .i64 c.ag]) (fun x _ => c.qs.length - (intOf x).toNat)
  case atStart => exact ⟨0, Nat.zero_le _, rfl, by simp, HB0.out, by simp, HK0.out⟩
  case round =>
    obtain ⟨k, hk, rfl, hall, hbel, hsz, hblk⟩ := hrel
    have HALL := Lib.hid hall
    have HBEL := Lib.hid hbel
    have HBLK := Lib.hid hblk
    clear hall hbel hblk
    by_cases hlt : k < c.qs.length
    · have d1 : decide ((k : Int) < (c.qs.length : Int)) = true := by simp; omega
      obtain ⟨b1, o1, rfl, _, hc1⟩ := (Q1.out.below HBEL.out).plain3 (by omega)
      obtain ⟨x, hx⟩ : ∃ z, c.qs[k]? = some z := ⟨_, List.getElem?_eq_getElem hlt⟩
      obtain ⟨g1, g2, g3⟩ := hc1 k _ hx
      have HX := Lib.hid hx
      have HP := Lib.hid (fun W => isPend_any x W)
      clear hc1 hx
      go_wp2_with fail
      refine (HP.out _).mono ?_
      rintro e w2 ⟨rfl, b2⟩
      have b3 := btrans (bal HBEL.out (.cells #[.int .i64 x.1, .int .i64 x.2.1, .int .i64 x.2.2] 33)) b2
      have hz3 := b2.size
      rw [World.size_alloc] at hz3
      have B3 := Lib.hid b3
      have BK3 := Lib.hid ((HBLK.out.alloc (.cells #[.int .i64 x.1, .int .i64 x.2.1, .int .i64 x.2.2] 33)).below b2 (by simp; omega))
      clear b2 b3
      cases hpx : pendB x
      · have HF := Lib.hid (show rangeB c = false by rw [HS.out, all_not HX.out hpx]; rfl)
        clear hpx
        go_wp2_with fail
        go_ret
        exact ⟨ret_bool HF.out.symm, B3.out⟩
      · have HN := Lib.hid (all_take_succ HX.out HALL.out hpx)
        clear hpx
        go_wp2_with fail
        go_roundw
        case rel => exact ⟨k + 1, by omega, by go_num, HN.out, B3.out, by omega, BK3.out⟩
        case measure => simp [intOf]; omega
    · obtain rfl : k = c.qs.length := by omega
      have d1 : decide ((c.qs.length : Int) < (c.qs.length : Int)) = false := by simp
      have g1 := HBLK.out.cell 1
      have g2 := HBLK.out.cell 2
      have g3 := HBLK.out.cell 3
      have g5 := HBLK.out.cell 5
      have g6 := HBLK.out.cell 6
      have g7 := HBLK.out.cell 7
      have hall := HALL.out
      rw [List.take_length] at hall
      have HA := Lib.hid hall
      have HAP := Lib.hid (areParts_any A1 c.ps c1 w.heap.size wr (R1.out.below HBEL.out) (by omega))
      have HRP := Lib.hid (fun q => risingP_any D1 c.qs e1 (wr.drewN q) (((Q1.out.below HBEL.out).more HBEL.out.size).drewN q) (by omega))
      clear hall
      generalize partsB c.ps = bp at *
      generalize adjB aheadP c.qs = bq at *
      go_wp2_with (first | (go_at_call 78; refine HAP.out.mono ?_; rintro e w1 ⟨rfl, qa, rfl⟩) | (go_at_call 79; refine (HRP.out _).mono ?_; rintro e w1 ⟨rfl, hbr⟩))
      all_goals go_ret
      all_goals refine ⟨ret_bool (by rw [HS.out, HA.out]; simp [*] <;> (intros; omega)), ?_⟩
      all_goals first | exact HBEL.out | exact below_drewN HBEL.out _ | exact btrans (below_drewN HBEL.out _) hbr
end Go.Proofs.YtbpkckahonmpkaaDoor
