/-
  The walk of VarintShort.
-/
import Derived.Test.YtlojphajdefkdaaDoorVaJ
import Derived.Test.YtlojphajdefkdaaDoorVaK
import Derived.Test.YtlojphajdefkdaaDoorQt
namespace Go.Proofs.YtlojphajdefkdaaDoor
open Go.RowKit

theorem encLen_mono : ∀ (n m : Nat), n ≤ m → m ≤ maxNum → encLen n ≤ encLen m := by
  intro n
  induction n using Nat.strongRecOn with
  | _ n ih =>
    intro m h hm
    by_cases hn : n < 128
    · rw [encLen_small n hn]; exact encLen_pos m
    · rw [encLen_big n (by omega) (by omega), encLen_big m (by omega) hm]
      have := ih (n / 128) (by omega) (m / 128) (by omega) (by unfold maxNum at hm ⊢; omega)
      omega

theorem no_begin (n m : Nat) (hn : n ≤ maxNum) (hm : m ≤ maxNum) (h : (enc m).take (encLen n) = enc n) : n = m := by
  have e : enc m = enc n ++ (enc m).drop (encLen n) := by rw [← h]; simp [encLen]
  have h1 := dec_enc m [] hm
  rw [List.append_nil, e, dec_enc n _ hn] at h1
  simp at h1
  exact h1.1

set_option maxRecDepth 100000 in
set_option maxHeartbeats 1000000 in
theorem short_bad (n m : Int) (w : World) (hg : HasErr w) (h : n < 0 ∨ 1099511627776 < n) :
    Calls Tryd.prog 6 #[.int .i64 n, .int .i64 m] w fun e w' => e = .returned (.bool true) ∧ Below w.heap.size w w' := by
  have HP1 := Lib.hid (Put_no none 0 0 n w h)
  obtain ⟨X, E, hX, hp2, _⟩ := put_both [] m (by decide)
  have HP2 := Lib.hid (fun W => hp2 none 0 W Reads.none_)
  have HL := Lib.hid (fun W => len_no n W h)
  have HWK := Lib.hid (fun W (h : HasErr W) => wakes_any W h)
  have HG := Lib.hid hg
  clear hp2 hg
  go_enter Tryd.func6, Tryd.ntmps6
  go_wp2_with fail
  refine HP1.out.mono ?_
  rintro e w1 ⟨A1, c1, rfl, r1, _, b1⟩
  go_wp2_with fail
  refine (HP2.out _).mono ?_
  rintro e w2 ⟨A2, c2, rfl, r2, _, b2⟩
  have b12 := b1.trans (b2.mono b1.size)
  have HG2 := Lib.hid (HG.out.below b12 HG.out.lt)
  go_wp2_with (first | (go_at_call 14; refine (HL.out _).mono ?_; rintro e w3 ⟨rfl, rfl⟩) | (go_at_call 9; refine (HWK.out _ HG2.out).mono ?_; rintro e w4 ⟨rfl, b4⟩))
  go_ret
  exact ⟨rfl, b12.trans (b4.mono b12.size)⟩

set_option maxRecDepth 100000 in
set_option maxHeartbeats 1000000 in
theorem short_bad2 (n : Nat) (m : Int) (w : World) (hg : HasErr w) (hn : n ≤ maxNum) (h : m < 0 ∨ 1099511627776 < m) :
    Calls Tryd.prog 6 #[.int .i64 n, .int .i64 m] w fun e w' => e = .returned (.bool true) ∧ Below w.heap.size w w' := by
  have HP1 := Lib.hid (Put_ok none [] 0 n w Reads.none_ (by decide) hn)
  have HP2 := Lib.hid (fun W => Put_no none 0 0 m W h)
  have HWK := Lib.hid (fun W (h : HasErr W) => wakes_any W h)
  have HG := Lib.hid hg
  clear hg
  go_enter Tryd.func6, Tryd.ntmps6
  go_wp2_with fail
  refine HP1.out.mono ?_
  rintro e w1 ⟨A1, c1, rfl, r1, _, b1⟩
  go_wp2_with fail
  refine (HP2.out _).mono ?_
  rintro e w2 ⟨A2, c2, rfl, r2, _, b2⟩
  have b12 := b1.trans (b2.mono b1.size)
  have HG2 := Lib.hid (HG.out.below b12 HG.out.lt)
  go_wp2_with (first | (go_at_call 9; refine (HWK.out _ HG2.out).mono ?_; rintro e w4 ⟨rfl, b4⟩))
  go_ret
  exact ⟨rfl, b12.trans (b4.mono b12.size)⟩


/-- Put onto nothing. -/
def NilPost (n : Nat) (w : World) (e : Ending) (w' : World) : Prop :=
  ∃ A c, e = .returned (.tuple #[.slice A (encLen n) c, .int .i64 0]) ∧ Reads w' w'.heap.size 1 A (encLen n) (cellsB (enc n)) ∧ encLen n ≤ c ∧ Below w.heap.size w w'
theorem Put_nil (n : Nat) (w : World) (hn : n ≤ maxNum) : Calls Tryd.prog 10 #[.slice none 0 0, .int .i64 n] w (NilPost n w) := by
  have h := Put_ok none [] 0 n w Reads.none_ (by decide) hn
  rw [List.nil_append] at h
  exact h

set_option maxRecDepth 100000 in
set_option maxHeartbeats 1000000 in
theorem short_same (n : Nat) (w : World) (hg : HasErr w) (hn : n ≤ maxNum) :
    Calls Tryd.prog 6 #[.int .i64 n, .int .i64 n] w fun e w' => e = .returned (.bool true) ∧ Below w.heap.size w w' := by
  have HP1 := Lib.hid (fun W => Put_nil n W hn)
  have HL1 := Lib.hid (fun W => len_ok n W hn)
  have HWK := Lib.hid (fun W (h : HasErr W) => wakes_any W h)
  have HG := Lib.hid hg
  clear hg
  have hp := encLen_pos n
  have hne : ((encLen n : Int) == 0) = false := beq_eq_false_iff_ne.2 (by omega)
  go_enter Tryd.func6, Tryd.ntmps6
  go_wp2_with fail
  refine (HP1.out _).mono ?_
  rintro e w1 ⟨A1, c1, rfl, r1, _, b1⟩
  go_wp2_with fail
  refine (HP1.out _).mono ?_
  rintro e w2 ⟨A2, c2, rfl, r2, hc2, b2⟩
  have b12 := b1.trans (b2.mono b1.size)
  have HG2 := Lib.hid (show HasErr w2.drew from HG.out.below b12.drew HG.out.lt)
  clear r1 r2 hc2
  go_wp2_with (go_at_call 14; refine (HL1.out _).mono ?_; rintro e w3 ⟨rfl, rfl⟩)
  refine wp_region_qtail 21 (by kernel_rfl) (by kernel_rfl) ?_
  simp only [List.take_succ_cons, List.take_zero, List.drop_succ_cons, List.drop_zero]
  repeat (go_big_quiet_step (fail))
  refine wpQuiet_nil ?_
  go_wp2_with (go_at_call 9; refine (HWK.out _ HG2.out).mono ?_; rintro e w4 ⟨rfl, b4⟩)
  go_ret
  exact ⟨rfl, b12.drew.trans (b4.mono b12.drew.size)⟩

set_option maxRecDepth 100000 in
set_option maxHeartbeats 1000000 in
theorem short_lt (n m : Nat) (w : World) (hg : HasErr w) (hn : n ≤ maxNum) (hm : m ≤ maxNum) (h : n < m) :
    Calls Tryd.prog 6 #[.int .i64 n, .int .i64 m] w fun e w' => e = .returned (.bool true) ∧ Below w.heap.size w w' := by
  have HP1 := Lib.hid (fun W => Put_nil n W hn)
  have HP2 := Lib.hid (fun W => Put_nil m W hm)
  have HL1 := Lib.hid (fun W => len_ok n W hn)
  have HL2 := Lib.hid (fun W => len_ok m W hm)
  have HWK := Lib.hid (fun W (h : HasErr W) => wakes_any W h)
  have HG := Lib.hid hg
  clear hg
  have hp := encLen_pos n
  have hne : ((encLen n : Int) == 0) = false := beq_eq_false_iff_ne.2 (by omega)
  have hnm : ((n : Int) == (m : Int)) = false := beq_eq_false_iff_ne.2 (by omega)
  have hx : ¬ n = m := by omega
  have hle : encLen n ≤ encLen m := encLen_mono n m (by omega) hm
  have d1 : decide (n ≤ m) = true := by simp; omega
  have d2 : decide (encLen m < encLen n) = false := by simp; omega
  go_enter Tryd.func6, Tryd.ntmps6
  go_wp2_with fail
  refine (HP1.out _).mono ?_
  rintro e w1 ⟨A1, c1, rfl, r1, _, b1⟩
  go_wp2_with fail
  refine (HP2.out _).mono ?_
  rintro e w2 ⟨A2, c2, rfl, r2, hc2, b2⟩
  have b12 := b1.trans (b2.mono b1.size)
  have HG2 := Lib.hid (show HasErr w2.drew from HG.out.below b12.drew HG.out.lt)
  have r1' := (r1.below b2).drew
  have r2' := r2.drew
  have hcv1 := run_string_of (c := c1) (w := w2.drew) Tryd.underlying22 Tryd.underlying5 Tryd.underlying9 r1'
  obtain ⟨hcu, hru⟩ := cut_upto (c := c2) (P := Tryd.prog) (t := 22) Tryd.underlying22 (fun _ => by kernel_rfl) r2' (encLen n) hle hc2
  rw [cellsB_take] at hru
  have hcv2 := run_string_of (c := c2) (w := w2.drew) Tryd.underlying22 Tryd.underlying5 Tryd.underlying9 hru
  have hcu' := fun W => hcu ((encLen n : Nat) : Int) W rfl
  have hdiff : ((bs (enc n)).toList == (bs ((enc m).take (encLen n))).toList) = false := by
    rw [beq_eq_false_iff_ne, toList_lb, toList_lb, lb_bs, lb_bs]
    exact fun h => hx (no_begin n m hn hm h.symm)
  go_wp2_with fail
  refine (HL1.out _).mono ?_
  rintro e w3 ⟨rfl, rfl⟩
  go_wp2_with fail
  refine (HL2.out _).mono ?_
  rintro e w3 ⟨rfl, rfl⟩
  go_wp2_with fail
  refine (HL1.out _).mono ?_
  rintro e w3 ⟨rfl, rfl⟩
  clear r1 r2 r1' r2' hc2
  go_wp2_with fail
  refine wp_region_qtail 21 (by kernel_rfl) (by kernel_rfl) ?_
  simp only [List.take_succ_cons, List.take_zero, List.drop_succ_cons, List.drop_zero]
  repeat (go_big_quiet_step (fail))
  refine wpQuiet_nil ?_
  go_wp2_with (go_at_call 9; refine (HWK.out _ HG2.out).mono ?_; rintro e w4 ⟨rfl, b4⟩)
  go_ret
  exact ⟨rfl, b12.drew.trans (b4.mono b12.drew.size)⟩

set_option maxRecDepth 100000 in
set_option maxHeartbeats 1000000 in
theorem short_gt (n m : Nat) (w : World) (hg : HasErr w) (hn : n ≤ maxNum) (hm : m ≤ maxNum) (h : m < n) (h2 : encLen m < encLen n) :
    Calls Tryd.prog 6 #[.int .i64 n, .int .i64 m] w fun e w' => e = .returned (.bool true) ∧ Below w.heap.size w w' := by
  have HP1 := Lib.hid (fun W => Put_nil n W hn)
  have HP2 := Lib.hid (fun W => Put_nil m W hm)
  have HL1 := Lib.hid (fun W => len_ok n W hn)
  have HL2 := Lib.hid (fun W => len_ok m W hm)
  have HWK := Lib.hid (fun W (h : HasErr W) => wakes_any W h)
  have HG := Lib.hid hg
  clear hg
  have hp := encLen_pos n
  have hne : ((encLen n : Int) == 0) = false := beq_eq_false_iff_ne.2 (by omega)
  have hnm : ((n : Int) == (m : Int)) = false := beq_eq_false_iff_ne.2 (by omega)
  have d1 : decide (n ≤ m) = false := by simp; omega
  have d2 : decide (encLen m < encLen n) = true := by simp; omega
  go_enter Tryd.func6, Tryd.ntmps6
  go_wp2_with fail
  refine (HP1.out _).mono ?_
  rintro e w1 ⟨A1, c1, rfl, r1, _, b1⟩
  go_wp2_with fail
  refine (HP2.out _).mono ?_
  rintro e w2 ⟨A2, c2, rfl, r2, hc2, b2⟩
  have b12 := b1.trans (b2.mono b1.size)
  have HG2 := Lib.hid (show HasErr w2.drew from HG.out.below b12.drew HG.out.lt)
  have r1' := (r1.below b2).drew
  have r2' := r2.drew
  go_wp2_with fail
  refine (HL1.out _).mono ?_
  rintro e w3 ⟨rfl, rfl⟩
  clear r1 r2 r1' r2' hc2
  go_wp2_with fail
  refine wp_region_qtail 21 (by kernel_rfl) (by kernel_rfl) ?_
  simp only [List.take_succ_cons, List.take_zero, List.drop_succ_cons, List.drop_zero]
  repeat (go_big_quiet_step (fail))
  refine wpQuiet_nil ?_
  go_wp2_with (go_at_call 9; refine (HWK.out _ HG2.out).mono ?_; rintro e w4 ⟨rfl, b4⟩)
  go_ret
  exact ⟨rfl, b12.drew.trans (b4.mono b12.drew.size)⟩

set_option maxRecDepth 100000 in
set_option maxHeartbeats 1000000 in
theorem short_ge (n m : Nat) (w : World) (hg : HasErr w) (hn : n ≤ maxNum) (hm : m ≤ maxNum) (h : m < n) (hle : encLen n ≤ encLen m) :
    Calls Tryd.prog 6 #[.int .i64 n, .int .i64 m] w fun e w' => e = .returned (.bool true) ∧ Below w.heap.size w w' := by
  have HP1 := Lib.hid (fun W => Put_nil n W hn)
  have HP2 := Lib.hid (fun W => Put_nil m W hm)
  have HL1 := Lib.hid (fun W => len_ok n W hn)
  have HL2 := Lib.hid (fun W => len_ok m W hm)
  have HWK := Lib.hid (fun W (h : HasErr W) => wakes_any W h)
  have HG := Lib.hid hg
  clear hg
  have hp := encLen_pos n
  have hne : ((encLen n : Int) == 0) = false := beq_eq_false_iff_ne.2 (by omega)
  have hnm : ((n : Int) == (m : Int)) = false := beq_eq_false_iff_ne.2 (by omega)
  have hx : ¬ n = m := by omega
  have d1 : decide (n ≤ m) = false := by simp; omega
  have d2 : decide (encLen m < encLen n) = false := by simp; omega
  go_enter Tryd.func6, Tryd.ntmps6
  go_wp2_with fail
  refine (HP1.out _).mono ?_
  rintro e w1 ⟨A1, c1, rfl, r1, _, b1⟩
  go_wp2_with fail
  refine (HP2.out _).mono ?_
  rintro e w2 ⟨A2, c2, rfl, r2, hc2, b2⟩
  have b12 := b1.trans (b2.mono b1.size)
  have HG2 := Lib.hid (show HasErr w2.drew from HG.out.below b12.drew HG.out.lt)
  have r1' := (r1.below b2).drew
  have r2' := r2.drew
  have hcv1 := run_string_of (c := c1) (w := w2.drew) Tryd.underlying22 Tryd.underlying5 Tryd.underlying9 r1'
  obtain ⟨hcu, hru⟩ := cut_upto (c := c2) (P := Tryd.prog) (t := 22) Tryd.underlying22 (fun _ => by kernel_rfl) r2' (encLen n) hle hc2
  rw [cellsB_take] at hru
  have hcv2 := run_string_of (c := c2) (w := w2.drew) Tryd.underlying22 Tryd.underlying5 Tryd.underlying9 hru
  have hcu' := fun W => hcu ((encLen n : Nat) : Int) W rfl
  have hdiff : ((bs (enc n)).toList == (bs ((enc m).take (encLen n))).toList) = false := by
    rw [beq_eq_false_iff_ne, toList_lb, toList_lb, lb_bs, lb_bs]
    exact fun h => hx (no_begin n m hn hm h.symm)
  go_wp2_with fail
  refine (HL1.out _).mono ?_
  rintro e w3 ⟨rfl, rfl⟩
  clear r1 r2 r1' r2' hc2
  go_wp2_with fail
  refine wp_region_qtail 21 (by kernel_rfl) (by kernel_rfl) ?_
  simp only [List.take_succ_cons, List.take_zero, List.drop_succ_cons, List.drop_zero]
  repeat (go_big_quiet_step (fail))
  refine wpQuiet_nil ?_
  go_wp2_with (go_at_call 9; refine (HWK.out _ HG2.out).mono ?_; rintro e w4 ⟨rfl, b4⟩)
  go_ret
  exact ⟨rfl, b12.drew.trans (b4.mono b12.drew.size)⟩

theorem short_walk (n m : Int) (w : World) (hg : HasErr w) :
    Calls Tryd.prog 6 #[.int .i64 n, .int .i64 m] w fun e w' => e = .returned (.bool true) ∧ Below w.heap.size w w' := by
  by_cases h : n < 0 ∨ 1099511627776 < n
  · exact short_bad n m w hg h
  · obtain ⟨a, rfl⟩ := Int.eq_ofNat_of_zero_le (show 0 ≤ n by omega)
    have ha : a ≤ maxNum := show a ≤ 1099511627776 by omega
    by_cases h2 : m < 0 ∨ 1099511627776 < m
    · exact short_bad2 a m w hg ha h2
    · obtain ⟨b, rfl⟩ := Int.eq_ofNat_of_zero_le (show 0 ≤ m by omega)
      have hb : b ≤ maxNum := show b ≤ 1099511627776 by omega
      rcases Nat.lt_trichotomy a b with h3 | rfl | h3
      · exact short_lt a b w hg ha hb h3
      · exact short_same a w hg ha
      · rcases Nat.lt_or_ge (encLen b) (encLen a) with h4 | h4
        · exact short_gt a b w hg ha hb h3 h4
        · exact short_ge a b w hg ha hb h3 h4
end Go.Proofs.YtlojphajdefkdaaDoor
