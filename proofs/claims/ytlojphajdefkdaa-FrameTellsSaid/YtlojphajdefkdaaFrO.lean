/-
  The statement FrameTells: its walk.
-/
import Derived.Test.YtlojphajdefkdaaFrN
namespace Go.Proofs.Ytlojphajdefkdaa
open Go.RowKit

theorem bytes_both (s : ByteArray) (hs : s.size ≤ 140737488351232) : ∃ (X : ByteArray) (E : Int),
    (∀ w, Calls Try.prog 9 #[.string s] w fun e w' => e = .returned (.tuple #[.string X, .int .i64 E]) ∧ Below w.heap.size w w') ∧
    (∀ w, Calls Try.prog 13 #[.string s] w fun e w' => e = .returned (.tuple #[.string X, .int .i64 E]) ∧ Below w.heap.size w w') := by
  rcases Nat.lt_or_ge 1024 s.size with h | h
  · exact ⟨_, _, fun w => bytes_long s w (by unfold maxLen; omega) h, fun w => (rbytes_long s w (by unfold maxLen; omega) h).mono fun e w' ⟨h1, h2⟩ => ⟨h1, h2 ▸ Below.refl _ _⟩⟩
  · exact ⟨_, _, fun w => bytes_ok s w h, fun w => rbytes_ok s w h⟩

theorem first_both (s : ByteArray) (hs : s.size ≤ 100000) : ∃ (X : ByteArray) (E : Int) (B : Bool),
    (∀ w, Calls Try.prog 14 #[.string s] w fun e w' => e = .returned (.tuple #[.string X, .int .i64 E, .bool B]) ∧ Below w.heap.size w w') ∧
    (∀ w, Calls Try.prog 15 #[.string s] w fun e w' => e = .returned (.tuple #[.string X, .int .i64 E, .bool B]) ∧ Below w.heap.size w w') := by
  rcases Classical.em (FrameAt (lb s) 0) with h | h
  · exact ⟨_, _, _, fun w => (first_any s w hs).mono fun e w' ⟨h1, _, h3⟩ => ⟨h1 h, h3⟩, fun w => (rfirst_yes s w hs h).mono fun e w' ⟨h1, q, h2⟩ => ⟨h1, h2 ▸ below_drewN (Below.refl _ _) q⟩⟩
  · exact ⟨_, _, _, fun w => (first_any s w hs).mono fun e w' ⟨_, h2, h3⟩ => ⟨h2 h, h3⟩, fun w => (rfirst_no s w hs h).mono fun e w' ⟨h1, q, h2⟩ => ⟨h1, h2 ▸ below_drewN (Below.refl _ _) q⟩⟩

set_option maxRecDepth 100000 in
set_option maxHeartbeats 1000000 in
theorem tells_walk (a0 a1 : ByteArray) (n : Int) (h0 : a0.size ≤ 140737488351232) (h1 : a1.size ≤ 140737488351232) (w : World) :
    Calls Try.prog 6 #[.string a0, .string a1, .int .i64 n] w fun e w' => e = .returned (.bool true) ∧ Below w.heap.size w w' := by
  by_cases hbig : 6000 < a0.size + a1.size
  · have hd : decide ((6000 : Int) < (a0.size : Int) + (a1.size : Int)) = true := by simp; omega
    go_enter Try.func6, Try.ntmps6
    go_wp2_with (go_at_call 7; refine (wakes_any _).mono ?_; rintro e w' ⟨rfl, hb⟩)
    go_ret
    exact ⟨rfl, hb⟩
  · have hd : decide ((6000 : Int) < (a0.size : Int) + (a1.size : Int)) = false := by simp; omega
    obtain ⟨X, E, hb1, hb2⟩ := bytes_both a0 h0
    obtain ⟨U, K, O, hf1, hf2⟩ := first_both a1 (by omega)
    have HB1 := Lib.hid hb1
    have HB2 := Lib.hid hb2
    have HF1 := Lib.hid hf1
    have HF2 := Lib.hid hf2
    have HA1 := Lib.hid (fun w => all_gives a1 w (by omega))
    have HA2 := Lib.hid (fun w => rall_gives a1 w (by omega))
    have HW1 := Lib.hid (fun w => whole_any a1 w (by omega))
    have HW2 := Lib.hid (fun w => rwhole_any a1 w (by omega))
    have hll := loads_len (lb a1)
    rw [length_lb] at hll
    have HLB := Lib.hid (length_lb a1)
    clear hb1 hb2 hf1 hf2
    go_enter Try.func6, Try.ntmps6
    go_wp2_with (first | (go_at_call 9; refine (HB1.out _).mono ?_; rintro e w1 ⟨rfl, k1⟩) | (go_at_call 13; refine (HB2.out _).mono ?_; rintro e w2 ⟨rfl, k2⟩) | (go_at_call 14; refine (HF1.out _).mono ?_; rintro e w3 ⟨rfl, k3⟩) | (go_at_call 15; refine (HF2.out _).mono ?_; rintro e w4 ⟨rfl, k4⟩) | (go_at_call 8; refine (HA1.out _).mono ?_; rintro e w5 ⟨A5, c5, rfl, r5, _, k5⟩) | (go_at_call 16; refine (HA2.out _).mono ?_; rintro e w6 ⟨A6, c6, rfl, r6, _, k6⟩))
    have HS := Lib.hid (same_self ((loadsFrom (lb a1) 0).map bs) A5 A6 (loadsFrom (lb a1) 0).length c5 c6 w5.heap.size w6.heap.size w6 (r5.below k6) r6 (by omega))
    clear r5 r6
    refine HS.out.mono ?_
    rintro e w7 ⟨rfl, q, rfl⟩
    go_wp2_with (first | (go_at_call 11; refine (size_any _ _).mono ?_; rintro e w8 ⟨rfl, rfl⟩) | (go_at_call 17; refine (rsize_any _ _).mono ?_; rintro e w9 ⟨rfl, rfl⟩) | (go_at_call 12; refine (HW1.out _).mono ?_; rintro e w10 ⟨rfl, k10⟩) | (go_at_call 18; refine (HW2.out _).mono ?_; rintro e w11 ⟨rfl, k11⟩) | (go_at_call 7; refine (wakes_any _).mono ?_; rintro e w12 ⟨rfl, k12⟩))
    go_ret
    refine ⟨rfl, ?_⟩
    have m2 := k1.trans (k2.mono k1.size)
    have m3 := m2.trans (k3.mono m2.size)
    have m4 := m3.trans (k4.mono m3.size)
    have m5 := m4.trans (k5.mono m4.size)
    have m6 := m5.trans (k6.mono m5.size)
    have m7 := below_drewN m6 q
    have m10 := m7.trans (k10.mono m7.size)
    have m11 := m10.trans (k11.mono m10.size)
    exact m11.trans (k12.mono m11.size)
end Go.Proofs.Ytlojphajdefkdaa
