/-
  Layer 18: the small functions, of the program and of the document.
-/
import Derived.Test.YtagclnmchkgpdaaDoorChecked
import Derived.Test.YtagclnmchkgpdaaDoorStP
import Derived.Test.YtagclnmchkgpdaaDoorQt
import Derived.Outline
namespace Go.Proofs.YtagclnmchkgpdaaDoor
open Go.RowKit

set_option maxHeartbeats 400000 in
theorem isPart_any (q : Int) (w : World) : Calls Tryd.prog 49 #[.int .i64 q] w fun e w' => e = .returned (.bool (partB q)) ∧ w = w' := by
  go_enter Tryd.func49, Tryd.ntmps49
  go_wp2
  all_goals (go_ret; exact ⟨ret_bool (by unfold partB; rw [Bool.eq_iff_iff]; simp; try omega), rfl⟩)

set_option maxHeartbeats 400000 in
theorem in_any (n a b : Int) (w : World) : Calls Tryd.prog 27 #[.int .i64 n, .int .i64 a, .int .i64 b] w fun e w' => e = .returned (.bool (inB n a b)) ∧ w = w' := by
  go_enter Tryd.func27, Tryd.ntmps27
  go_wp2
  all_goals (go_ret; exact ⟨ret_bool (by unfold inB; rw [Bool.eq_iff_iff]; simp; try omega), rfl⟩)

set_option maxHeartbeats 400000 in
theorem isPend_any (p : Pd) (w : World) : Calls Tryd.prog 54 #[.agg #[.int .i64 p.1, .int .i64 p.2.1, .int .i64 p.2.2]] w fun e w' => e = .returned (.bool (pendB p)) ∧ Below w.heap.size w w' := by
  have HB := Lib.hid (fun x => (Below.refl w.heap.size w).alloc (Nat.le_refl _) x)
  go_enter Tryd.func54, Tryd.ntmps54
  go_wp2_with (go_at_call 49; refine (isPart_any _ _).mono ?_; rintro e w1 ⟨rfl, rfl⟩)
  all_goals (go_ret; exact ⟨ret_bool (by unfold pendB; rw [Bool.eq_iff_iff]; simp [*]; try omega), HB.out _⟩)

set_option maxHeartbeats 400000 in
theorem pend_any (p : Pd) (w : World) : Calls Tryd.prog 29 #[.agg #[.int .i64 p.1, .int .i64 p.2.1, .int .i64 p.2.2]] w fun e w' => e = .returned (.bool (pendB p)) ∧ Below w.heap.size w w' := by
  have HB := Lib.hid (fun x => (Below.refl w.heap.size w).alloc (Nat.le_refl _) x)
  go_enter Tryd.func29, Tryd.ntmps29
  go_wp2_with (go_at_call 27; refine (in_any _ _ _ _).mono ?_; rintro e w1 ⟨rfl, rfl⟩)
  all_goals (go_ret; exact ⟨ret_bool (by simp only [inB, Bool.and_eq_true, decide_eq_true_eq] at *; unfold pendB partB; rw [Bool.eq_iff_iff]; simp; try omega), HB.out _⟩)

set_option maxHeartbeats 400000 in
theorem ahead_any (a b : Pd) (w : World) : Calls Tryd.prog 30 #[.agg #[.int .i64 a.1, .int .i64 a.2.1, .int .i64 a.2.2], .agg #[.int .i64 b.1, .int .i64 b.2.1, .int .i64 b.2.2]] w fun e w' => e = .returned (.bool (aheadB a b)) ∧ Below w.heap.size w w' := by
  have HB := Lib.hid (fun x y => ((Below.refl w.heap.size w).alloc (Nat.le_refl _) x).alloc (by simp) y)
  go_enter Tryd.func30, Tryd.ntmps30
  go_wp2
  all_goals (go_ret; exact ⟨ret_bool (by unfold aheadB; rw [Bool.eq_iff_iff]; simp; try omega), HB.out _ _⟩)

set_option maxHeartbeats 400000 in
theorem isNaN_any (a : Int) (w : World) : Calls Tryd.prog 68 #[.int .i64 a] w fun e w' => e = .returned (.bool false) ∧ w = w' := by
  go_enter Tryd.func68, Tryd.ntmps68
  go_wp2
  all_goals (go_ret; exact ⟨ret_bool (by simp), rfl⟩)

set_option maxHeartbeats 400000 in
theorem Compare_any (a b : Int) (w : World) : Calls Tryd.prog 53 #[.int .i64 a, .int .i64 b] w fun e w' => e = .returned (.int .i64 (cmpI a b)) ∧ w = w' := by
  go_enter Tryd.func53, Tryd.ntmps53
  go_wp2_with (go_at_call 68; refine (isNaN_any _ _).mono ?_; rintro e w1 ⟨rfl, rfl⟩)
  all_goals (go_ret; exact ⟨ret_int (by unfold cmpI; split <;> (try split) <;> omega), rfl⟩)

set_option maxHeartbeats 400000 in
theorem Or_any (A : Option Addr) (l : List Int) (c B : Nat) (w : World) (hr : Reads w B 1 A l.length (cellsI .i64 l)) (hl : l.length ≤ 1000) :
    Calls Tryd.prog 69 #[.slice A l.length c] w fun e w' => e = .returned (.int .i64 (orI l)) ∧ w = w' := by
  have HR := Lib.hid hr
  clear hr
  go_enter Tryd.func69, Tryd.ntmps69
  go_wp2
  go_loop [8] (fun x => ∃ k : Nat, k ≤ l.length ∧ x = .int .i64 k ∧ orI l = orI (l.drop k)) (fun x => l.length - (intOf x).toNat)
  case atStart => exact ⟨0, Nat.zero_le _, rfl, rfl⟩
  case round =>
    obtain ⟨k, hk, rfl, he⟩ := hrel
    have HE := Lib.hid he
    clear he
    by_cases hlt : k < l.length
    · have d1 : decide ((k : Int) < (l.length : Int)) = true := by simp; omega
      obtain ⟨b1, o1, rfl, _, hc1⟩ := HR.out.plain (by omega)
      obtain ⟨z, hz⟩ : ∃ z, l[k]? = some z := ⟨_, List.getElem?_eq_getElem hlt⟩
      have g1 := hc1 k _ (by rw [getElem?_cellsI, hz]; rfl)
      have hdr : l.drop k = z :: l.drop (k + 1) := by
        rw [List.drop_eq_getElem_cons hlt]
        congr 1
        exact (List.getElem?_eq_some_iff.1 hz).2
      have HD := Lib.hid hdr
      clear hc1 hz hdr
      by_cases h0 : z = 0
      · subst h0
        go_wp2
        go_round
        case rel => exact ⟨k + 1, by omega, by go_num, by rw [HE.out, HD.out]; simp [orI]⟩
        case measure => simp [intOf]; omega
      · have d2 : (z != 0) = true := by simpa using h0
        have hfin : orI l = z := by rw [HE.out, HD.out]; simp [orI, h0]
        have HF := Lib.hid hfin
        clear hfin
        go_wp2
        go_ret
        exact ⟨ret_int HF.out.symm, rfl⟩
    · have d1 : decide ((k : Int) < (l.length : Int)) = false := by simp; omega
      have hfin : orI l = 0 := by rw [HE.out, List.drop_eq_nil_of_le (by omega)]; rfl
      have HF := Lib.hid hfin
      clear hfin
      go_wp2
      go_ret
      exact ⟨ret_int HF.out.symm, rfl⟩

theorem reads_newI (w : World) (t : TypeId) (l : List Int) : Reads (w.alloc (.cells (cellsI .i64 l).toArray t)) (w.heap.size + 1) 1 (some ⟨w.heap.size, 0, none⟩) l.length (cellsI .i64 l) := by
  refine ⟨by rw [length_cellsI]; omega, fun _ => ⟨_, rfl, Nat.lt_succ_self _, fun j u hu => ?_⟩⟩
  rw [add_none, Nat.zero_add]
  have := (Blk.new w t (cellsI .i64 l).toArray).cell j
  rw [this]
  simpa using hu

set_option maxRecDepth 100000 in
set_option maxHeartbeats 400000 in
theorem byPlace_any (a b : Pd) (w : World) : Calls Tryd.prog 56 #[.agg #[.int .i64 a.1, .int .i64 a.2.1, .int .i64 a.2.2], .agg #[.int .i64 b.1, .int .i64 b.2.1, .int .i64 b.2.2]] w fun e w' => e = .returned (.int .i64 (plI a b)) ∧ Below w.heap.size w w' := by
  have HB := Lib.hid (fun x y z => (bal (bal (bal (Below.refl w.heap.size w) x) y) z).drew)
  go_enter Tryd.func56, Tryd.ntmps56
  go_wp2_with fail
  refine wp_region_qtail 10 (by kernel_rfl) (by kernel_rfl) ?_
  simp only [List.take_succ_cons, List.take_zero, List.drop_succ_cons, List.drop_zero]
  repeat (go_big_quiet_step (fail))
  go_big_quiet_want
  go_big_quiet_op
  refine ⟨_, (Compare_any _ _ _).mono (fun _ _ ⟨he, hw⟩ => ⟨he, hw.symm⟩), ?_⟩
  go_big_quiet_on
  repeat (go_big_quiet_step (fail))
  go_big_quiet_want
  go_big_quiet_op
  refine ⟨_, (Compare_any _ _ _).mono (fun _ _ ⟨he, hw⟩ => ⟨he, hw.symm⟩), ?_⟩
  go_big_quiet_on
  repeat (go_big_quiet_step (fail))
  refine wpQuiet_nil ?_
  go_wp2_with fail
  refine (Or_any _ [cmpI a.1 b.1, cmpI a.2.1 b.2.1] 2 _ _ (by simpa [cellsI] using (reads_newI ((w.alloc (.cells #[.int .i64 a.1, .int .i64 a.2.1, .int .i64 a.2.2] 38)).alloc (.cells #[.int .i64 b.1, .int .i64 b.2.1, .int .i64 b.2.2] 38)) 3 [cmpI a.1 b.1, cmpI a.2.1 b.2.1]).drew) (by simp)).mono ?_
  rintro e w1 ⟨rfl, rfl⟩
  go_wp2_with fail
  go_ret
  exact ⟨rfl, HB.out _ _ _⟩
end Go.Proofs.YtagclnmchkgpdaaDoor
