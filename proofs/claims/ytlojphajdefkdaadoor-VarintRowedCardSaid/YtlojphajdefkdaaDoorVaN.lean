/-
  The walk of VarintBack.
-/
import Derived.Test.YtlojphajdefkdaaDoorVaM
namespace Go.Proofs.YtlojphajdefkdaaDoor
open Go.RowKit

def Put2Post (l : List UInt8) (n : Nat) (w : World) (e : Ending) (w' : World) : Prop :=
  ∃ A c, e = .returned (.tuple #[.slice A (l.length + encLen n) c, .int .i64 0]) ∧ Reads w' w'.heap.size 1 A (l.length + encLen n) (cellsB (l ++ enc n)) ∧ l.length + encLen n ≤ c ∧ Below w.heap.size w w'
theorem Put_two (A : Option Addr) (l : List UInt8) (c : Nat) (n : Nat) (w : World) (hr : Reads w w.heap.size 1 A l.length (cellsB l)) (hl : l.length ≤ 90000) (hn : n ≤ maxNum) :
    Calls Tryd.prog 10 #[.slice A l.length c, .int .i64 n] w (Put2Post l n w) := by
  have h := Put_ok A l c n w hr hl hn
  unfold BytesPost at h
  rw [List.length_append] at h
  exact h

/-- An empty slice that was just made. -/
theorem own_empty (w : World) (t : TypeId) : (w.alloc (.cells #[] t)).ownsRow w.heap.size t 1 (.slice (some ⟨w.heap.size, 0, none⟩) 0 0) 0 [] :=
  ⟨rfl, .inr ⟨w.heap.size, 0, _, rfl, Nat.le_refl _, heap_alloc_new w _, Nat.le_refl _, by unfold maxLen; omega, by simp, by simp⟩⟩

set_option maxRecDepth 100000 in
set_option maxHeartbeats 1000000 in
theorem back_long (A A2 : Option Addr) (l l2 : List UInt8) (c c2 : Nat) (n : Int) (w : World) (hl : l.length ≤ 140737488351232) (hl2 : l2.length ≤ 140737488351232) (hg : HasErr w) (hbig : 2000 < l.length ∨ 2000 < l2.length) :
    Calls Tryd.prog 4 #[.slice A l.length c, .slice A2 l2.length c2, .int .i64 n] w fun e w' => e = .returned (.bool true) ∧ Below w.heap.size w w' := by
  have HWK := Lib.hid (wakes_any w hg)
  clear hg
  by_cases h1 : 2000 < l.length
  · have hd : decide ((2000 : Int) < (l.length : Int)) = true := by simp; omega
    go_enter Tryd.func4, Tryd.ntmps4
    go_wp2_with (go_at_call 9; refine HWK.out.mono ?_; rintro e w' ⟨rfl, hb⟩)
    go_ret
    exact ⟨rfl, hb⟩
  · have hd : decide ((2000 : Int) < (l.length : Int)) = false := by simp; omega
    have hd2 : decide ((2000 : Int) < (l2.length : Int)) = true := by simp; omega
    go_enter Tryd.func4, Tryd.ntmps4
    go_wp2_with (go_at_call 9; refine HWK.out.mono ?_; rintro e w' ⟨rfl, hb⟩)
    go_ret
    exact ⟨rfl, hb⟩

set_option maxRecDepth 100000 in
set_option maxHeartbeats 1000000 in
theorem back_no (A A2 : Option Addr) (l l2 : List UInt8) (c c2 : Nat) (n : Int) (w : World) (hl : l.length ≤ 2000) (hl2 : l2.length ≤ 2000) (hg : HasErr w) (h : n < 0 ∨ 1099511627776 < n) :
    Calls Tryd.prog 4 #[.slice A l.length c, .slice A2 l2.length c2, .int .i64 n] w fun e w' => e = .returned (.bool true) ∧ Below w.heap.size w w' := by
  have HP := Lib.hid (Put_no A l.length c n w h)
  have HL := Lib.hid (fun W => len_no n W h)
  have HWK := Lib.hid (fun W (h : HasErr W) => wakes_any W h)
  have HG := Lib.hid hg
  clear hg
  have d1 : decide ((2000 : Int) < (l.length : Int)) = false := by simp; omega
  have d2 : decide ((2000 : Int) < (l2.length : Int)) = false := by simp; omega
  by_cases h0 : n < 0
  · have d3 : decide (n < 0) = true := by simpa using h0
    clear h
    go_enter Tryd.func4, Tryd.ntmps4
    go_wp2_with (first | (go_at_call 10; refine HP.out.mono ?_; rintro e w1 ⟨A1, c1, rfl, _, _, hb1⟩; have HG1 := Lib.hid (HG.out.below hb1 HG.out.lt)) | (go_at_call 14; refine (HL.out _).mono ?_; rintro e w3 ⟨rfl, rfl⟩) | (go_at_call 9; refine (HWK.out _ HG1.out).mono ?_; rintro e w' ⟨rfl, hb⟩))
    go_ret
    exact ⟨rfl, hb1.trans (hb.mono hb1.size)⟩
  · have d3 : decide (n < 0) = false := by simpa using h0
    have d4 : decide (1099511627776 < n) = true := by simp; omega
    clear h
    go_enter Tryd.func4, Tryd.ntmps4
    go_wp2_with (first | (go_at_call 10; refine HP.out.mono ?_; rintro e w1 ⟨A1, c1, rfl, _, _, hb1⟩; have HG1 := Lib.hid (HG.out.below hb1 HG.out.lt)) | (go_at_call 14; refine (HL.out _).mono ?_; rintro e w3 ⟨rfl, rfl⟩) | (go_at_call 9; refine (HWK.out _ HG1.out).mono ?_; rintro e w' ⟨rfl, hb⟩))
    go_ret
    exact ⟨rfl, hb1.trans (hb.mono hb1.size)⟩

set_option maxRecDepth 100000 in
set_option maxHeartbeats 1000000 in
theorem back_ok (A A2 : Option Addr) (l l2 : List UInt8) (c c2 : Nat) (n : Nat) (w : World) (hr : Reads w w.heap.size 1 A l.length (cellsB l)) (hr2 : Reads w w.heap.size 1 A2 l2.length (cellsB l2)) (hl : l.length ≤ 2000) (hl2 : l2.length ≤ 2000) (hg : HasErr w) (hn : n ≤ maxNum) :
    Calls Tryd.prog 4 #[.slice A l.length c, .slice A2 l2.length c2, .int .i64 n] w fun e w' => e = .returned (.bool true) ∧ Below w.heap.size w w' := by
  obtain ⟨i0, hi, hz0, hz1, hz2⟩ := info_parts infoByte
  have hle := encLen_le n hn
  have hn' : n ≤ 1099511627776 := hn
  have HP := Lib.hid (Put_two A l c n w hr (by omega) hn)
  have HL := Lib.hid (fun W => len_ok n W hn)
  have HWK := Lib.hid (fun W (h : HasErr W) => wakes_any W h)
  have HG := Lib.hid hg
  have HR := Lib.hid hr
  have HR2 := Lib.hid hr2
  clear hg hr hr2
  have d1 : decide ((2000 : Int) < (l.length : Int)) = false := by simp; omega
  have d2 : decide ((2000 : Int) < (l2.length : Int)) = false := by simp; omega
  have d3 : decide ((n : Int) < 0) = false := by simp
  have d4 : decide ((1099511627776 : Int) < (n : Int)) = false := by simp; omega
  have hgo : getOf (l ++ enc n ++ l2) (l.length : Int) = ((n : Int), (l.length : Int) + encLen n, 0) := getOf_ok _ _ _ _ (by rw [List.append_assoc, List.drop_left, dec_enc n l2 hn]) (by simp)
  have HGO := Lib.hid hgo
  have htk : (l ++ enc n).take l.length = l := List.take_left
  have HTK := Lib.hid htk
  clear hgo htk
  go_enter Tryd.func4, Tryd.ntmps4
  go_wp2_with fail
  refine HP.out.mono ?_
  rintro e w1 ⟨A1, c1, rfl, r1, hc1, b1⟩
  have R1 := Lib.hid r1
  have HC1 := Lib.hid hc1
  clear r1 HP
  go_wp2_with (first | (at_builtin; refine wpList_append_any _ rfl (.tmp 49) (.tmp 50) 22 rfl w1.heap.size 5 i0 (.int .u8 0) 1 1 Tryd.underlying22 hi hz0 hz1 hz2 rfl (by decide) (.slice (some ⟨w1.heap.size, 0, none⟩) 0 0) 0 [] rfl (own_empty _ _) w1.heap.size A1 (l.length + encLen n) c1 (cellsB (l ++ enc n)) rfl (R1.out.alloc (Nat.le_refl _) _) (cellsB_one _) (by unfold maxLen; omega) (by omega) (by simp) ?_; intro v3 w3 hown3 hg3 hat3) | (at_builtin; refine wpList_append_any _ rfl (.tmp 51) (.tmp 52) 22 rfl w1.heap.size 5 i0 (.int .u8 0) 1 1 Tryd.underlying22 hi hz0 hz1 hz2 rfl (by decide) v3 _ _ rfl hown3 w.heap.size A2 l2.length c2 (cellsB l2) rfl (((HR2.out.below b1).alloc b1.size _).grown hg3 (by have := b1.size; simp; omega) (fun g hg => by simp [Value.ownBlock] at hg; have := b1.size; omega)) (cellsB_one _) (by unfold maxLen; omega) (by omega) (by have := hg3.size; simp at this; omega) ?_; intro v4 w4 hown4 hg4 hat4))
  have b3 : Below w1.heap.size w1 w3 := ((Below.refl _ w1).alloc (Nat.le_refl _) _).grown hg3 (by simp) (fun k e => by simp [Value.ownBlock] at e; omega)
  have b4 : Below w1.heap.size w1 w4 := b3.grown hg4 b3.size (fun g hg => (hown3.lt g hg).1)
  have hown5 : w4.ownsRow w1.heap.size 5 1 v4 (l ++ enc n ++ l2).length (cellsB (l ++ enc n ++ l2)) := by
    rw [cellsB_append, List.length_append, List.length_append]
    rw [Nat.zero_add, List.nil_append] at hown4
    exact hown4
  obtain ⟨A5, c5, rfl, _⟩ := own_slice hown5
  have b14 := b1.trans (b4.mono b1.size)
  have HGet := Lib.hid (Get_any A5 (l ++ enc n ++ l2) c5 (l.length : Int) w4 (by simp only [List.length_append]; show l.length + encLen n + _ ≤ _; omega) (HG.out.below b14 HG.out.lt) (Reads.of_own hown5))
  clear hown3 hown4 hown5 hg3 hg4 hat3 hat4 b3
  refine HGet.out.mono ?_
  rintro e w6 ⟨he, b6⟩
  rw [HGO.out] at he
  subst he
  have b46 : Below w1.heap.size w1 w6 := b4.trans (b6.mono b4.size)
  have b16 := b1.trans (b46.mono b1.size)
  have HG6 := Lib.hid (show HasErr w6.drew from HG.out.below b16.drew HG.out.lt)
  have r0' := (HR.out.below b16).drew
  have r1' := (R1.out.below b46).drew
  have hcv1 := run_string_of (c := c) (w := w6.drew) Tryd.underlying22 Tryd.underlying5 Tryd.underlying9 r0'
  obtain ⟨hcu, hru⟩ := cut_upto (c := c1) (P := Tryd.prog) (t := 22) Tryd.underlying22 (fun _ => by kernel_rfl) r1' l.length (by omega) HC1.out
  rw [cellsB_take, HTK.out] at hru
  have hcv2 := run_string_of (c := c1) (w := w6.drew) Tryd.underlying22 Tryd.underlying5 Tryd.underlying9 hru
  have hcu' := fun W => hcu ((l.length : Nat) : Int) W rfl
  clear hcu hru r0' r1'
  go_wp2_with fail
  refine wp_region_qtail 38 (by kernel_rfl) (by kernel_rfl) ?_
  simp only [List.take_succ_cons, List.take_zero, List.drop_succ_cons, List.drop_zero]
  repeat (go_big_quiet_step (fail))
  go_big_quiet_want
  go_big_quiet_op
  refine ⟨_, (HL.out _).mono (fun _ _ ⟨he, hw⟩ => ⟨he, hw.symm⟩), ?_⟩
  go_big_quiet_on
  repeat (go_big_quiet_step (fail))
  refine wpQuiet_nil ?_
  go_wp2_with (go_at_call 9; refine (HWK.out _ HG6.out).mono ?_; rintro e w7 ⟨rfl, b7⟩)
  go_ret
  exact ⟨rfl, b16.drew.trans (b7.mono b16.drew.size)⟩

theorem back_walk (A A2 : Option Addr) (l l2 : List UInt8) (c c2 : Nat) (n : Int) (w : World) (hr : Reads w w.heap.size 1 A l.length (cellsB l)) (hr2 : Reads w w.heap.size 1 A2 l2.length (cellsB l2)) (hl : l.length ≤ 140737488351232) (hl2 : l2.length ≤ 140737488351232) (hg : HasErr w) :
    Calls Tryd.prog 4 #[.slice A l.length c, .slice A2 l2.length c2, .int .i64 n] w fun e w' => e = .returned (.bool true) ∧ Below w.heap.size w w' := by
  by_cases hbig : 2000 < l.length ∨ 2000 < l2.length
  · exact back_long A A2 l l2 c c2 n w hl hl2 hg hbig
  · by_cases h : n < 0 ∨ 1099511627776 < n
    · exact back_no A A2 l l2 c c2 n w (by omega) (by omega) hg h
    · obtain ⟨k, rfl⟩ := Int.eq_ofNat_of_zero_le (show 0 ≤ n by omega)
      exact back_ok A A2 l l2 c c2 k w hr hr2 (by omega) (by omega) hg (show k ≤ 1099511627776 by omega)
end Go.Proofs.YtlojphajdefkdaaDoor
